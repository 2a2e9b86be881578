/- RaiseRate: the reference's entry (made by wip/raiseS.py). -/
import Derived.Test.YtkganlojknhajaaRaiseP
import Derived.Deep.RegionHeld3
import Derived.BigRegion
namespace Go.Proofs.Ytkganlojknhajaa
open Go.RowKit
set_option linter.unusedVariables false
set_option linter.unusedSimpArgs false
attribute [local go_sem] ExtOf.cell

theorem hit_spec {z g d : Int} {r : Rate} : hitR z g d r = ((r.Zone == z) && ((r.Grams == g) && inB d (r.From + 1) r.Until)) := by
  rw [Bool.eq_iff_iff]
  simp [hitR, inB]
  omega
theorem box_three (wr : World) (r : Rate) : Ext wr (((wr.alloc (.cells #[.int .i64 r.Zone, .int .i64 r.Grams, .int .i64 r.From, .int .i64 r.Until, .int .i64 r.Cents] 25)).alloc (.cells #[.int .i64 r.Zone, .int .i64 r.Grams, .int .i64 r.From, .int .i64 r.Until, .int .i64 r.Cents] 25)).alloc (.cells #[.int .i64 r.Zone, .int .i64 r.Grams, .int .i64 r.From, .int .i64 r.Until, .int .i64 r.Cents] 25)).drew ∧
    (((wr.alloc (.cells #[.int .i64 r.Zone, .int .i64 r.Grams, .int .i64 r.From, .int .i64 r.Until, .int .i64 r.Cents] 25)).alloc (.cells #[.int .i64 r.Zone, .int .i64 r.Grams, .int .i64 r.From, .int .i64 r.Until, .int .i64 r.Cents] 25)).alloc (.cells #[.int .i64 r.Zone, .int .i64 r.Grams, .int .i64 r.From, .int .i64 r.Until, .int .i64 r.Cents] 25)).drew.ownsRow wr.heap.size 25 5 (.slice (some ⟨wr.heap.size, 0, none⟩) 1 1) 1 r.cs ∧
    (((wr.alloc (.cells #[.int .i64 r.Zone, .int .i64 r.Grams, .int .i64 r.From, .int .i64 r.Until, .int .i64 r.Cents] 25)).alloc (.cells #[.int .i64 r.Zone, .int .i64 r.Grams, .int .i64 r.From, .int .i64 r.Until, .int .i64 r.Cents] 25)).alloc (.cells #[.int .i64 r.Zone, .int .i64 r.Grams, .int .i64 r.From, .int .i64 r.Until, .int .i64 r.Cents] 25)).drew.ownsRow wr.heap.size 25 5 (.slice (some ⟨wr.heap.size + 1, 0, none⟩) 1 1) 1 r.cs ∧
    (((wr.alloc (.cells #[.int .i64 r.Zone, .int .i64 r.Grams, .int .i64 r.From, .int .i64 r.Until, .int .i64 r.Cents] 25)).alloc (.cells #[.int .i64 r.Zone, .int .i64 r.Grams, .int .i64 r.From, .int .i64 r.Until, .int .i64 r.Cents] 25)).alloc (.cells #[.int .i64 r.Zone, .int .i64 r.Grams, .int .i64 r.From, .int .i64 r.Until, .int .i64 r.Cents] 25)).drew.ownsRow wr.heap.size 25 5 (.slice (some ⟨wr.heap.size + 1 + 1, 0, none⟩) 1 1) 1 r.cs := by
  have h0 := own_block wr 25 r.cs
  have h1 := own_block (wr.alloc (.cells #[.int .i64 r.Zone, .int .i64 r.Grams, .int .i64 r.From, .int .i64 r.Until, .int .i64 r.Cents] 25)) 25 r.cs
  have h2 := own_block ((wr.alloc (.cells #[.int .i64 r.Zone, .int .i64 r.Grams, .int .i64 r.From, .int .i64 r.Until, .int .i64 r.Cents] 25)).alloc (.cells #[.int .i64 r.Zone, .int .i64 r.Grams, .int .i64 r.From, .int .i64 r.Until, .int .i64 r.Cents] 25)) 25 r.cs
  simp only [World.size_alloc] at h1 h2
  exact ⟨(((Ext.refl wr).alloc _).alloc _).alloc _ |>.drew, (((Ext.refl _).alloc _).alloc _).drew.own h0, ((Ext.refl _).alloc _).drew.own (own_low' h1 (by omega)), (Ext.refl _).drew.own (own_low' h2 (by omega))⟩
theorem old_set (r : Rate) (d : Int) : r.cs.set 3 (.int .i64 (d - 1)) = (oldR d r).cs := rfl
theorem new_set (r : Rate) (d c : Int) : (r.cs.set 2 (.int .i64 d)).set 4 (.int .i64 c) = (newR d c r).cs := rfl
set_option maxRecDepth 100000 in
set_option maxHeartbeats 4000000 in
theorem RaiseRateS_any (A : Option Addr) (n c : Nat) (xs : List Rate) (z g d cc : Int) (w : World) (h : RateL w A n xs) (hcap : n ≤ c) :
    Calls Try.prog 40 #[.slice A n c, .int .i64 z, .int .i64 g, .int .i64 d, .int .i64 cc] w (RaisePost (raiseO xs z g d cc) w) := by
  obtain ⟨i0, hi0, hz0v, hzz1, hzz2⟩ := info_parts infoRate
  have hsm := h.small
  have H := Lib.hid h.len
  rcases chain3 (RatesOk xs) (inB d 0 4000) (inB cc 1 9999) with h1 | ⟨h1, h2⟩ | ⟨h1, h2, h3⟩ | ⟨h1, h2, h3⟩
  iterate 3
    · rw [show raiseO xs z g d cc = none by refine raise_ask ?_; simp [askA, *]]
      go_enter Try.func40, Try.ntmps40
      go_wp2_with (first | (go_at_call 52; refine (l8Good_any _ _ _ xs _ h).mono ?_; rintro e wa ⟨rfl, he1⟩; have hc1 := he1.cells) | (go_at_call 55; refine (l2Day_any _ _).mono ?_; rintro e w' ⟨rfl, rfl⟩) | (go_at_call 63; refine (l8Cents_any _ _).mono ?_; rintro e w' ⟨rfl, rfl⟩))
      go_ret2
      exact RaisePost.empty he1
  have ha : askA xs d cc = true := by simp [askA, h1, h2, h3]
  have HA := Lib.hid ha
  have HWF := Lib.hid (fun (k : Nat) (r : Rate) (hx : xs[k]? = some r) => raise_wf (c := cc) h.wf hx h2 h3)
  obtain ⟨hd1, hd2⟩ := inB_iff.1 h2
  have hn16 : n ≤ 16 := by
    have h6 := h1
    simp only [RatesOk, Bool.and_eq_true, decide_eq_true_eq] at h6
    have := H.out
    omega
  have HG := Lib.hid (RatesOk_good h1)
  clear ha
  go_enter Try.func40, Try.ntmps40
  go_wp2_with (first | (go_at_call 52; refine (l8Good_any _ _ _ xs _ h).mono ?_; rintro e wa ⟨rfl, he1⟩; have hc1 := he1.cells) | (go_at_call 55; refine (l2Day_any _ _).mono ?_; rintro e w' ⟨rfl, rfl⟩) | (go_at_call 63; refine (l8Cents_any _ _).mono ?_; rintro e w' ⟨rfl, rfl⟩))
  clear hc1
  go_loopw [12] (fun i wr => ∃ k : Nat, k ≤ n ∧ i = .int .i64 k ∧ noneTo (hitR z g d) xs k ∧ Ext w wr) (fun i _ => n - (intOf i).toNat)
  case atStart => exact ⟨0, Nat.zero_le _, rfl, noneTo_zero _ _, he1⟩
  case round =>
    obtain ⟨k, hk, rfl, hno, he⟩ := hrel
    have HN := Lib.hid hno
    clear hno
    by_cases hlt : k < n
    · obtain ⟨b, off, r, rfl, hb, hx, g0, g1, g2, g3, g4⟩ := (h.ext he).at_ hlt
      obtain ⟨_, _, ⟨a5, a6⟩, ⟨a7, a8⟩, _, _⟩ := rtOk_all (show rtOk r.Zone r.Grams r.From r.Until r.Cents = true from HG.out r (List.mem_of_getElem? hx.out))
      rcases chain3 (r.Zone == z) (r.Grams == g) (inB d (r.From + 1) r.Until) with k1 | ⟨k1, k2⟩ | ⟨k1, k2, k3⟩ | ⟨k1, k2, k3⟩
      iterate 3
        · have hs := Lib.hid (noneTo_succ HN.out hx.out (by rw [hit_spec]; simp [*]))
          have n1 : (r.Zone != z) = !(r.Zone == z) := rfl
          have n2 : (r.Grams != g) = !(r.Grams == g) := rfl
          simp only [k1] at n1
          try simp only [k2] at n2
          simp only [Bool.not_false, Bool.not_true] at n1
          try simp only [Bool.not_false, Bool.not_true] at n2
          go_wp2_with (go_at_call 64; refine (l1In_any _ _ _ _).mono ?_; rintro e w' ⟨rfl, rfl⟩)
          go_roundw
          case rel => exact ⟨k + 1, by omega, by go_num, hs.out, he.alloc _⟩
          case measure => simp [intOf]; omega
      · have hp : hitR z g d r = true := by rw [hit_spec]; simp [*]
        have HR := Lib.hid (raise_some HA.out HN.out hx.out hp)
        have HX := Lib.hid hx.out
        have n1 : (r.Zone != z) = !(r.Zone == z) := rfl
        have n2 : (r.Grams != g) = !(r.Grams == g) := rfl
        simp only [k1, k2, Bool.not_true] at n1 n2
        clear hp hx
        go_wp2_with (go_at_call 64; refine (l1In_any _ _ _ _).mono ?_; rintro e w' ⟨rfl, rfl⟩)
        clear g0 g1 g2 g3 g4
        go_region
        focus
          obtain ⟨e8, b0, b1, b2⟩ := box_three wr r
          have zz1 : wr.heap.size < wr.heap.size + 1 + 1 := by omega
          have zz2 : wr.heap.size < wr.heap.size + 1 := by omega
          have zz3 : wr.heap.size + 1 ≠ wr.heap.size + 1 + 1 := by omega
          have E8 := Lib.hid e8
          have B0 := Lib.hid b0
          have B14 := Lib.hid b1
          have B15 := Lib.hid b2
          clear e8 b0 b1 b2
          generalize (((wr.alloc (.cells #[.int .i64 r.Zone, .int .i64 r.Grams, .int .i64 r.From, .int .i64 r.Until, .int .i64 r.Cents] 25)).alloc (.cells #[.int .i64 r.Zone, .int .i64 r.Grams, .int .i64 r.From, .int .i64 r.Until, .int .i64 r.Cents] 25)).alloc (.cells #[.int .i64 r.Zone, .int .i64 r.Grams, .int .i64 r.From, .int .i64 r.Until, .int .i64 r.Cents] 25)).drew = W8 at *
          generalize wr.heap.size + 1 + 1 = g15 at *
          generalize wr.heap.size + 1 = g14 at *
        rotate_left
        focus
          obtain ⟨e8, b0, b1, b2⟩ := box_three wr r
          have zz1 : wr.heap.size < wr.heap.size + 1 + 1 := by omega
          have zz2 : wr.heap.size < wr.heap.size + 1 := by omega
          have zz3 : wr.heap.size + 1 ≠ wr.heap.size + 1 + 1 := by omega
          have E8 := Lib.hid e8
          have B0 := Lib.hid b0
          have B15 := Lib.hid b1
          have B14 := Lib.hid b2
          clear e8 b0 b1 b2
          generalize (((wr.alloc (.cells #[.int .i64 r.Zone, .int .i64 r.Grams, .int .i64 r.From, .int .i64 r.Until, .int .i64 r.Cents] 25)).alloc (.cells #[.int .i64 r.Zone, .int .i64 r.Grams, .int .i64 r.From, .int .i64 r.Until, .int .i64 r.Cents] 25)).alloc (.cells #[.int .i64 r.Zone, .int .i64 r.Grams, .int .i64 r.From, .int .i64 r.Until, .int .i64 r.Cents] 25)).drew = W8 at *
          generalize wr.heap.size + 1 + 1 = g14 at *
          generalize wr.heap.size + 1 = g15 at *
        all_goals
          have x14 := own_at B14.out (j := 3) rfl
          have x15 := own_at B15.out (j := 2) rfl
          have x16 := own_at B15.out (j := 4) rfl
          have f14 := B14.out.frozenAt 3
          have f15 := B15.out.frozenAt 2
          have f16 := B15.out.frozenAt 4
          have z14 : g14 < W8.heap.size := World.block_lt_of_cell? W8 _ x14
          have z15 : g15 < W8.heap.size := World.block_lt_of_cell? W8 _ x15
          have hne : g14 ≠ g15 := by omega
          go_wp2
          have s1 := B14.out.stored 3 (.int .i64 (d - 1))
          have q15 := B15.out.kept s1.2 (Or.inr (by simp [Value.ownBlock]; omega))
          have s2 := q15.stored 2 (.int .i64 d)
          have s3 := s2.1.stored 4 (.int .i64 cc)
          have q14 := (s1.1.kept s2.2 (Or.inr (by simp [Value.ownBlock]; omega))).kept s3.2 (Or.inr (by simp [Value.ownBlock]; omega))
          have q0 := ((B0.out.kept s1.2 (Or.inr (by simp [Value.ownBlock]; omega))).kept s2.2 (Or.inr (by simp [Value.ownBlock]; omega))).kept s3.2 (Or.inr (by simp [Value.ownBlock]; omega))
          have q15' := s3.1
          rw [old_set] at q14
          rw [new_set] at q15'
          have R14 := Lib.hid q14
          have R15 := Lib.hid q15'
          have R0 := Lib.hid q0
          have E9 := Lib.hid (((E8.out.row s1.2 (by omega)).row s2.2 (by omega)).row s3.2 (by omega))
          clear s1 s2 s3 q14 q15 q15' q0 E8 B14 B15 B0 x14 x15 x16 f14 f15 f16 z14 z15
          generalize ((W8.setCell ⟨g14, 3, none⟩ (.int .i64 (d - 1))).setCell ⟨g15, 2, none⟩ (.int .i64 d)).setCell ⟨g15, 4, none⟩ (.int .i64 cc) = W9 at *
          have c0 : W9.cell? ⟨g14, 0, none⟩ = some (.int .i64 r.Zone) := own_at R14.out (j := 0) rfl
          have c1 : W9.cell? ⟨g14, 1, none⟩ = some (.int .i64 r.Grams) := own_at R14.out (j := 1) rfl
          have c2 : W9.cell? ⟨g14, 2, none⟩ = some (.int .i64 r.From) := own_at R14.out (j := 2) rfl
          have c3 : W9.cell? ⟨g14, 3, none⟩ = some (.int .i64 (d - 1)) := own_at R14.out (j := 3) rfl
          have c4 : W9.cell? ⟨g14, 4, none⟩ = some (.int .i64 r.Cents) := own_at R14.out (j := 4) rfl
          have d0 : W9.cell? ⟨g15, 0, none⟩ = some (.int .i64 r.Zone) := own_at R15.out (j := 0) rfl
          have d1 : W9.cell? ⟨g15, 1, none⟩ = some (.int .i64 r.Grams) := own_at R15.out (j := 1) rfl
          have d2 : W9.cell? ⟨g15, 2, none⟩ = some (.int .i64 d) := own_at R15.out (j := 2) rfl
          have d3 : W9.cell? ⟨g15, 3, none⟩ = some (.int .i64 r.Until) := own_at R15.out (j := 3) rfl
          have d4 : W9.cell? ⟨g15, 4, none⟩ = some (.int .i64 cc) := own_at R15.out (j := 4) rfl
          have hz1' : (0 : Int) ≤ (k : Int) + 1 := by omega
          have hz2' : (k : Int) + 1 ≤ (n : Int) := by omega
          have hz3' : k + 1 ≤ n := by omega
          have hkc : k ≤ c := by omega
          have hkc1 : k + 1 ≤ c := by omega
          have wk : IntKind.i64.wrap ((k : Int) + 1) = (k : Int) + 1 := IntWalk.i64_in _ (by omega)
          obtain ⟨b0, off0, eb0, hb0, hcl0⟩ := h.rd.2 (by omega)
          injection eb0 with eb0; injection eb0 with eb1 eb2; subst eb1; subst eb2
          have HSRC := Lib.hid (fun (W : World) (he' : Ext w W) (j : Nat) (u : Value) (hu : (xs.flatMap Rate.cs)[j]? = some u) => he'.cell1 (hcl0 j u hu))
          have E09 := Lib.hid (he.trans E9.out)
          clear hcl0 hb0
          obtain ⟨A2, hA2, hsrc⟩ : ∃ A2 : Addr, (if c = k + 1 then some (⟨b, off, none⟩ : Addr) else some ⟨b, off + (k + 1) * 5, none⟩) = some A2 ∧ Hid (∀ W, Ext w W → ∀ j u, ((xs.drop (k + 1)).flatMap Rate.cs)[j]? = some u → W.cell? (A2.add j) = some u) := by
            have hl2 : ((xs.drop (k + 1)).flatMap Rate.cs).length = (n - (k + 1)) * 5 := by rw [Rates_len, List.length_drop, H.out]
            by_cases hd : c = k + 1
            · refine ⟨⟨b, off, none⟩, by simp [hd], fun W he' j u hu => ?_⟩
              have h0 : ((xs.drop (k + 1)).flatMap Rate.cs).length = 0 := by rw [hl2]; omega
              rw [List.length_eq_zero_iff.1 h0] at hu
              simp at hu
            · refine ⟨⟨b, off + (k + 1) * 5, none⟩, by simp [hd], fun W he' j u hu => ?_⟩
              rw [Addr.add_mid, Nat.add_assoc]
              refine HSRC.out W he' _ _ ?_
              have e1 : xs.flatMap Rate.cs = (xs.take (k + 1)).flatMap Rate.cs ++ (xs.drop (k + 1)).flatMap Rate.cs := by rw [← List.flatMap_append, List.take_append_drop]
              rw [e1, List.getElem?_append_right (by rw [Rates_len, List.length_take, H.out]; omega), Rates_len, List.length_take, H.out, Nat.min_eq_left (by omega), Nat.add_sub_cancel_left]
              exact hu
          have HS1 := Lib.hid (show ∀ W, Ext w W → ∀ j u, ((xs.take k).flatMap Rate.cs)[j]? = some u → W.cell? ((⟨b, off, none⟩ : Addr).add j) = some u from fun W he' j u hu => by
            rw [Addr.add_mid]
            refine HSRC.out W he' _ _ ?_
            have e1 : xs.flatMap Rate.cs = (xs.take k).flatMap Rate.cs ++ (xs.drop k).flatMap Rate.cs := by rw [← List.flatMap_append, List.take_append_drop]
            rw [e1, List.getElem?_append_left ((List.getElem?_eq_some_iff.1 hu).1)]
            exact hu)
          have HL1 := Lib.hid (show ((xs.take k).flatMap Rate.cs).length = k * 5 by rw [Rates_len, List.length_take, H.out, Nat.min_eq_left (by omega)])
          have HL2 := Lib.hid (show ((xs.drop (k + 1)).flatMap Rate.cs).length = (n - (k + 1)) * 5 by rw [Rates_len, List.length_drop, H.out])
          have HE := Lib.hid (show (xs.take k).flatMap Rate.cs ++ ((oldR d r).cs ++ (newR d cc r).cs) ++ (xs.drop (k + 1)).flatMap Rate.cs = (raiseL xs k r d cc).flatMap Rate.cs by simp [raiseL, List.flatMap_append, List.flatMap_cons])
          have HP1 := Lib.hid (show ∀ u ∈ (oldR d r).cs ++ (newR d cc r).cs, u.oneCell' = true from fun u hu => by
            have := Rates_one [oldR d r, newR d cc r] u (by simpa using hu)
            exact this)
          have hnk : k + 2 + (n - (k + 1)) = n + 1 := by omega
          clear HSRC
          refine wp_region_held_drew (S := fun w' => Ext W9 w') (by kernel_rfl) ?_ (fun hHeld => ?_); (focus exact (Ext.refl W9).drew)
          (refine wpAnyH_take (i := 1) (v := ?_) rfl (by kernel_rfl) (by kernel_rfl) (by kernel_rfl) (fun _ _ _ h => h) (Or.inl ⟨by rfl, ?_⟩) (by assumption) ?_); rotate_left 1; (focus (intro w hSw; (try dsimp only at hSw); go_simp; (try with_reducible rfl))); (try simp only [Act.put, List.setIfInBounds_toArray, List.set_cons_zero, List.set_cons_succ]); (refine wpAnyH_take (i := 2) (v := ?_) rfl (by kernel_rfl) (by kernel_rfl) (by kernel_rfl) (fun _ _ _ h => h) (Or.inl ⟨by rfl, ?_⟩) (by assumption) ?_); rotate_left 1; (focus (intro w hSw; (try dsimp only at hSw); go_simp; (try with_reducible rfl))); (try simp only [Act.put, List.setIfInBounds_toArray, List.set_cons_zero, List.set_cons_succ]); (refine wpAnyH_take (i := 3) (v := ?_) rfl (by kernel_rfl) (by kernel_rfl) (by kernel_rfl) (fun _ _ _ h => h) (Or.inl ⟨by rfl, ?_⟩) (by assumption) ?_); rotate_left 1; (focus (intro w hSw; (try dsimp only at hSw); go_simp; (try with_reducible rfl))); (try simp only [Act.put, List.setIfInBounds_toArray, List.set_cons_zero, List.set_cons_succ]); (refine wpAnyH_take (i := 9) (v := ?_) rfl (by kernel_rfl) (by kernel_rfl) (by kernel_rfl) (fun _ _ _ h => h) (Or.inl ⟨by rfl, ?_⟩) (by assumption) ?_); rotate_left 1; (focus (intro w hSw; (try dsimp only at hSw); go_simp; (try with_reducible rfl))); (try simp only [Act.put, List.setIfInBounds_toArray, List.set_cons_zero, List.set_cons_succ]); (refine wpAnyH_take (i := 10) (v := ?_) rfl (by kernel_rfl) (by kernel_rfl) (by kernel_rfl) (fun _ _ _ h => h) (Or.inl ⟨by rfl, ?_⟩) (by assumption) ?_); rotate_left 1; (focus (intro w hSw; (try dsimp only at hSw); go_simp; (try with_reducible rfl))); (try simp only [Act.put, List.setIfInBounds_toArray, List.set_cons_zero, List.set_cons_succ]); (refine wpAnyH_take (i := 11) (v := ?_) rfl (by kernel_rfl) (by kernel_rfl) (by kernel_rfl) (fun _ _ _ h => h) (Or.inl ⟨by rfl, ?_⟩) (by assumption) ?_); rotate_left 1; (focus (intro w hSw; (try dsimp only at hSw); go_simp; (try with_reducible rfl))); (try simp only [Act.put, List.setIfInBounds_toArray, List.set_cons_zero, List.set_cons_succ]); (refine wpAnyH_take (i := 12) (v := ?_) rfl (by kernel_rfl) (by kernel_rfl) (by kernel_rfl) (fun _ _ _ h => h) (Or.inl ⟨by rfl, ?_⟩) (by assumption) ?_); rotate_left 1; (focus (intro w hSw; (try dsimp only at hSw); go_simp; (try with_reducible rfl))); (try simp only [Act.put, List.setIfInBounds_toArray, List.set_cons_zero, List.set_cons_succ])
          refine wpAnyH_take (i := 5) (v := ?_) rfl (by kernel_rfl) (by kernel_rfl) (by kernel_rfl) (fun _ _ _ h => h) (Or.inl ⟨by rfl, ?_⟩) (by assumption) ?_; rotate_left 1; (focus (intro w hSw; (try dsimp only at hSw); have yc0 := hSw.cell1 c0; have yc1 := hSw.cell1 c1; have yc2 := hSw.cell1 c2; have yc3 := hSw.cell1 c3; have yc4 := hSw.cell1 c4; go_simp; (try with_reducible rfl))); (try simp only [Act.put, List.setIfInBounds_toArray, List.set_cons_zero, List.set_cons_succ])
          refine wpAnyH_take (i := 6) (v := ?_) rfl (by kernel_rfl) (by kernel_rfl) (by kernel_rfl) (fun _ _ _ h => h) (Or.inl ⟨by rfl, ?_⟩) (by assumption) ?_; rotate_left 1; (focus (intro w hSw; (try dsimp only at hSw); have yd0 := hSw.cell1 d0; have yd1 := hSw.cell1 d1; have yd2 := hSw.cell1 d2; have yd3 := hSw.cell1 d3; have yd4 := hSw.cell1 d4; go_simp; (try with_reducible rfl))); (try simp only [Act.put, List.setIfInBounds_toArray, List.set_cons_zero, List.set_cons_succ])
          have X0 := Lib.hid (show Ext W9 W9.drew from (Ext.refl W9).drew)
          clear hHeld c0 c1 c2 c3 c4 d0 d1 d2 d3 d4 wk
          refine wpAnyH_ready (rs := [0, 7]) (by kernel_rfl) (by simp) ?_; refine AllReadyH.cons rfl (fun K hK => ?_) (AllReadyH.cons rfl (fun K hK => ?_) (AllReadyH.nil))
          focus
            have X1 := Lib.hid (X0.out.alloc (.cells #[] 25))
            go_simp; (try simp only [Act.put, List.setIfInBounds_toArray, List.set_cons_zero, List.set_cons_succ]); (try go_wp2_with fail); refine hK.out _ _ ?_ (fun hHeld => ?_); (focus exact X1.out); clear hK K; (try simp only [Act.put, List.setIfInBounds_toArray, List.set_cons_zero, List.set_cons_succ])
            have bx1 := own_empty (W9.drew) W9.heap.size 25 5 (X0.out.size)
            (try simp only [World.size_alloc, World.size_drew] at bx1)
            have el1 := Lib.hid bx1
            clear bx1
            refine wpAnyH_ready (rs := [4, 7]) (by kernel_rfl) (by simp) ?_; refine AllReadyH.cons rfl (fun K hK => ?_) (AllReadyH.cons rfl (fun K hK => ?_) (AllReadyH.nil))
            focus
              refine step_app_own rfl (.tmp 70) (.tmp 73) 31 rfl W9.heap.size 25 i0 (.agg #[.int .i64 0, .int .i64 0, .int .i64 0, .int .i64 0, .int .i64 0]) 5 40 Try.underlying31 hi0 hz0v hzz1 hzz2 rfl (by decide) (.slice (some ⟨W9.heap.size, 0, none⟩) 0 0) 0 [] rfl el1.out ⟨b, off, none⟩ k c ((xs.take k).flatMap Rate.cs) rfl HL1.out (HS1.out _ (E09.out.trans X1.out)) (Rates_one _) (by unfold maxLen; omega) (by omega) X1.out.size 74 rfl k (Nat.zero_add k) ((xs.take k).flatMap Rate.cs) (List.nil_append _) ?_; intro Ap2 cp2 w2 op2 gp2; have X2 := Lib.hid (X1.out.grown gp2 (fun q hq => (el1.out.lt q hq).1)); have el2 := Lib.hid op2; clear op2 gp2; (try simp only [Act.put, List.setIfInBounds_toArray, List.set_cons_zero, List.set_cons_succ]); refine hK.out _ _ ?_ (fun hHeld => ?_); (focus exact X2.out); clear hK K; (try simp only [Act.put, List.setIfInBounds_toArray, List.set_cons_zero, List.set_cons_succ])
              have X3 := Lib.hid (X2.out.alloc (.cells #[.int .i64 r.Zone, .int .i64 r.Grams, .int .i64 r.From, .int .i64 (d - 1), .int .i64 r.Cents, .int .i64 r.Zone, .int .i64 r.Grams, .int .i64 d, .int .i64 r.Until, .int .i64 cc] 25))
              refine wpAnyH_ready (rs := [7]) (by kernel_rfl) (by simp) ?_; refine AllReadyH.cons rfl (fun K hK => ?_) AllReadyH.nil; go_simp; (try simp only [Act.put, List.setIfInBounds_toArray, List.set_cons_zero, List.set_cons_succ]); (try go_wp2_with fail); refine hK.out _ _ ?_ (fun hHeld => ?_); (focus exact X3.out); clear hK K; (try simp only [Act.put, List.setIfInBounds_toArray, List.set_cons_zero, List.set_cons_succ])
              have bx3 := own_block (w2) 25 ((oldR d r).cs ++ (newR d cc r).cs)
              (try simp only [World.size_alloc, World.size_drew] at bx3)
              have el3 := Lib.hid (((Ext.refl (w2)).alloc (.cells #[.int .i64 r.Zone, .int .i64 r.Grams, .int .i64 r.From, .int .i64 (d - 1), .int .i64 r.Cents, .int .i64 r.Zone, .int .i64 r.Grams, .int .i64 d, .int .i64 r.Until, .int .i64 cc] 25)).own el2.out)
              have pr3 := Lib.hid bx3
              clear bx3
              refine wpAnyH_ready (rs := [8]) (by kernel_rfl) (by simp) ?_; refine AllReadyH.cons rfl (fun K hK => ?_) AllReadyH.nil; refine step_app_own rfl (.tmp 74) (.tmp 77) 31 rfl W9.heap.size 25 i0 (.agg #[.int .i64 0, .int .i64 0, .int .i64 0, .int .i64 0, .int .i64 0]) 5 40 Try.underlying31 hi0 hz0v hzz1 hzz2 rfl (by decide) (.slice Ap2 k cp2) k ((xs.take k).flatMap Rate.cs) rfl el3.out ⟨w2.heap.size, 0, none⟩ 2 2 ((oldR d r).cs ++ (newR d cc r).cs) rfl rfl (fun j u hj => by rw [Addr.add_mid, Nat.zero_add]; exact own_at pr3.out hj) HP1.out (by unfold maxLen; omega) (by omega) X3.out.size 78 rfl (k + 2) rfl ((xs.take k).flatMap Rate.cs ++ ((oldR d r).cs ++ (newR d cc r).cs)) rfl ?_; intro Ap4 cp4 w4 op4 gp4; have X4 := Lib.hid (X3.out.grown gp4 (fun q hq => (el3.out.lt q hq).1)); have el4 := Lib.hid op4; clear op4 gp4; (try simp only [Act.put, List.setIfInBounds_toArray, List.set_cons_zero, List.set_cons_succ]); refine hK.out _ _ ?_ (fun hHeld => ?_); (focus exact X4.out); clear hK K; (try simp only [Act.put, List.setIfInBounds_toArray, List.set_cons_zero, List.set_cons_succ])
              refine wpAnyH_ready (rs := [13]) (by kernel_rfl) (by simp) ?_; refine AllReadyH.cons rfl (fun K hK => ?_) AllReadyH.nil; refine step_app_own rfl (.tmp 78) (.tmp 82) 31 rfl W9.heap.size 25 i0 (.agg #[.int .i64 0, .int .i64 0, .int .i64 0, .int .i64 0, .int .i64 0]) 5 40 Try.underlying31 hi0 hz0v hzz1 hzz2 rfl (by decide) (.slice Ap4 (k + 2) cp4) (k + 2) ((xs.take k).flatMap Rate.cs ++ ((oldR d r).cs ++ (newR d cc r).cs)) rfl el4.out A2 (n - (k + 1)) (c - (k + 1)) ((xs.drop (k + 1)).flatMap Rate.cs) rfl HL2.out (hsrc.out _ (E09.out.trans X4.out)) (Rates_one _) (by unfold maxLen; omega) (by omega) X4.out.size 83 rfl (n + 1) hnk ((raiseL xs k r d cc).flatMap Rate.cs) HE.out ?_; intro A9 c9 W10 op5 gp5; have X5 := Lib.hid (X4.out.grown gp5 (fun q hq => (el4.out.lt q hq).1)); have el5 := Lib.hid op5; clear op5 gp5; (try simp only [Act.put, List.setIfInBounds_toArray, List.set_cons_zero, List.set_cons_succ]); refine hK.out _ _ ?_ (fun hHeld => ?_); (focus exact X5.out); clear hK K; (try simp only [Act.put, List.setIfInBounds_toArray, List.set_cons_zero, List.set_cons_succ])
              (refine wpAnyH_take (i := 14) (v := ?_) rfl (by kernel_rfl) (by kernel_rfl) (by kernel_rfl) (fun _ _ _ h => h) (Or.inl ⟨by rfl, ?_⟩) (by assumption) ?_); rotate_left 1; (focus (intro w hSw; (try dsimp only at hSw); go_simp; (try with_reducible rfl))); (try simp only [Act.put, List.setIfInBounds_toArray, List.set_cons_zero, List.set_cons_succ])
              refine wpAnyH_done (by kernel_rfl) ?_ _
              have OD := Lib.hid el5.out
              have X10 := Lib.hid X5.out
            rotate_left 1
            focus
              have X2 := Lib.hid (X1.out.alloc (.cells #[.int .i64 r.Zone, .int .i64 r.Grams, .int .i64 r.From, .int .i64 (d - 1), .int .i64 r.Cents, .int .i64 r.Zone, .int .i64 r.Grams, .int .i64 d, .int .i64 r.Until, .int .i64 cc] 25))
              go_simp; (try simp only [Act.put, List.setIfInBounds_toArray, List.set_cons_zero, List.set_cons_succ]); (try go_wp2_with fail); refine hK.out _ _ ?_ (fun hHeld => ?_); (focus exact X2.out); clear hK K; (try simp only [Act.put, List.setIfInBounds_toArray, List.set_cons_zero, List.set_cons_succ])
              have bx2 := own_block ((W9.drew.alloc (.cells #[] 25))) 25 ((oldR d r).cs ++ (newR d cc r).cs)
              (try simp only [World.size_alloc, World.size_drew] at bx2)
              have el2 := Lib.hid (((Ext.refl ((W9.drew.alloc (.cells #[] 25)))).alloc (.cells #[.int .i64 r.Zone, .int .i64 r.Grams, .int .i64 r.From, .int .i64 (d - 1), .int .i64 r.Cents, .int .i64 r.Zone, .int .i64 r.Grams, .int .i64 d, .int .i64 r.Until, .int .i64 cc] 25)).own el1.out)
              have pr2 := Lib.hid bx2
              clear bx2
              refine wpAnyH_ready (rs := [4]) (by kernel_rfl) (by simp) ?_; refine AllReadyH.cons rfl (fun K hK => ?_) AllReadyH.nil; refine step_app_own rfl (.tmp 70) (.tmp 73) 31 rfl W9.heap.size 25 i0 (.agg #[.int .i64 0, .int .i64 0, .int .i64 0, .int .i64 0, .int .i64 0]) 5 40 Try.underlying31 hi0 hz0v hzz1 hzz2 rfl (by decide) (.slice (some ⟨W9.heap.size, 0, none⟩) 0 0) 0 [] rfl el2.out ⟨b, off, none⟩ k c ((xs.take k).flatMap Rate.cs) rfl HL1.out (HS1.out _ (E09.out.trans X2.out)) (Rates_one _) (by unfold maxLen; omega) (by omega) X2.out.size 74 rfl k (Nat.zero_add k) ((xs.take k).flatMap Rate.cs) (List.nil_append _) ?_; intro Ap3 cp3 w3 op3 gp3; have X3 := Lib.hid (X2.out.grown gp3 (fun q hq => (el2.out.lt q hq).1)); have pr3 := Lib.hid (pr2.out.kept gp3 (Or.inr (by simp [Value.ownBlock]; try omega))); have el3 := Lib.hid op3; clear op3 gp3; (try simp only [Act.put, List.setIfInBounds_toArray, List.set_cons_zero, List.set_cons_succ]); refine hK.out _ _ ?_ (fun hHeld => ?_); (focus exact X3.out); clear hK K; (try simp only [Act.put, List.setIfInBounds_toArray, List.set_cons_zero, List.set_cons_succ])
              refine wpAnyH_ready (rs := [8]) (by kernel_rfl) (by simp) ?_; refine AllReadyH.cons rfl (fun K hK => ?_) AllReadyH.nil; refine step_app_own rfl (.tmp 74) (.tmp 77) 31 rfl W9.heap.size 25 i0 (.agg #[.int .i64 0, .int .i64 0, .int .i64 0, .int .i64 0, .int .i64 0]) 5 40 Try.underlying31 hi0 hz0v hzz1 hzz2 rfl (by decide) (.slice Ap3 k cp3) k ((xs.take k).flatMap Rate.cs) rfl el3.out ⟨W9.heap.size + 1, 0, none⟩ 2 2 ((oldR d r).cs ++ (newR d cc r).cs) rfl rfl (fun j u hj => by rw [Addr.add_mid, Nat.zero_add]; exact own_at pr3.out hj) HP1.out (by unfold maxLen; omega) (by omega) X3.out.size 78 rfl (k + 2) rfl ((xs.take k).flatMap Rate.cs ++ ((oldR d r).cs ++ (newR d cc r).cs)) rfl ?_; intro Ap4 cp4 w4 op4 gp4; have X4 := Lib.hid (X3.out.grown gp4 (fun q hq => (el3.out.lt q hq).1)); have el4 := Lib.hid op4; clear op4 gp4; (try simp only [Act.put, List.setIfInBounds_toArray, List.set_cons_zero, List.set_cons_succ]); refine hK.out _ _ ?_ (fun hHeld => ?_); (focus exact X4.out); clear hK K; (try simp only [Act.put, List.setIfInBounds_toArray, List.set_cons_zero, List.set_cons_succ])
              refine wpAnyH_ready (rs := [13]) (by kernel_rfl) (by simp) ?_; refine AllReadyH.cons rfl (fun K hK => ?_) AllReadyH.nil; refine step_app_own rfl (.tmp 78) (.tmp 82) 31 rfl W9.heap.size 25 i0 (.agg #[.int .i64 0, .int .i64 0, .int .i64 0, .int .i64 0, .int .i64 0]) 5 40 Try.underlying31 hi0 hz0v hzz1 hzz2 rfl (by decide) (.slice Ap4 (k + 2) cp4) (k + 2) ((xs.take k).flatMap Rate.cs ++ ((oldR d r).cs ++ (newR d cc r).cs)) rfl el4.out A2 (n - (k + 1)) (c - (k + 1)) ((xs.drop (k + 1)).flatMap Rate.cs) rfl HL2.out (hsrc.out _ (E09.out.trans X4.out)) (Rates_one _) (by unfold maxLen; omega) (by omega) X4.out.size 83 rfl (n + 1) hnk ((raiseL xs k r d cc).flatMap Rate.cs) HE.out ?_; intro A9 c9 W10 op5 gp5; have X5 := Lib.hid (X4.out.grown gp5 (fun q hq => (el4.out.lt q hq).1)); have el5 := Lib.hid op5; clear op5 gp5; (try simp only [Act.put, List.setIfInBounds_toArray, List.set_cons_zero, List.set_cons_succ]); refine hK.out _ _ ?_ (fun hHeld => ?_); (focus exact X5.out); clear hK K; (try simp only [Act.put, List.setIfInBounds_toArray, List.set_cons_zero, List.set_cons_succ])
              (refine wpAnyH_take (i := 14) (v := ?_) rfl (by kernel_rfl) (by kernel_rfl) (by kernel_rfl) (fun _ _ _ h => h) (Or.inl ⟨by rfl, ?_⟩) (by assumption) ?_); rotate_left 1; (focus (intro w hSw; (try dsimp only at hSw); go_simp; (try with_reducible rfl))); (try simp only [Act.put, List.setIfInBounds_toArray, List.set_cons_zero, List.set_cons_succ])
              refine wpAnyH_done (by kernel_rfl) ?_ _
              have OD := Lib.hid el5.out
              have X10 := Lib.hid X5.out
            rotate_left 1
          rotate_left 2
          focus
            have X1 := Lib.hid (X0.out.alloc (.cells #[.int .i64 r.Zone, .int .i64 r.Grams, .int .i64 r.From, .int .i64 (d - 1), .int .i64 r.Cents, .int .i64 r.Zone, .int .i64 r.Grams, .int .i64 d, .int .i64 r.Until, .int .i64 cc] 25))
            go_simp; (try simp only [Act.put, List.setIfInBounds_toArray, List.set_cons_zero, List.set_cons_succ]); (try go_wp2_with fail); refine hK.out _ _ ?_ (fun hHeld => ?_); (focus exact X1.out); clear hK K; (try simp only [Act.put, List.setIfInBounds_toArray, List.set_cons_zero, List.set_cons_succ])
            have bx1 := own_block (W9.drew) 25 ((oldR d r).cs ++ (newR d cc r).cs)
            (try simp only [World.size_alloc, World.size_drew] at bx1)
            have pr1 := Lib.hid bx1
            clear bx1
            have X2 := Lib.hid (X1.out.alloc (.cells #[] 25))
            refine wpAnyH_ready (rs := [0]) (by kernel_rfl) (by simp) ?_; refine AllReadyH.cons rfl (fun K hK => ?_) AllReadyH.nil; go_simp; (try simp only [Act.put, List.setIfInBounds_toArray, List.set_cons_zero, List.set_cons_succ]); (try go_wp2_with fail); refine hK.out _ _ ?_ (fun hHeld => ?_); (focus exact X2.out); clear hK K; (try simp only [Act.put, List.setIfInBounds_toArray, List.set_cons_zero, List.set_cons_succ])
            have bx2 := own_empty ((W9.drew.alloc (.cells #[.int .i64 r.Zone, .int .i64 r.Grams, .int .i64 r.From, .int .i64 (d - 1), .int .i64 r.Cents, .int .i64 r.Zone, .int .i64 r.Grams, .int .i64 d, .int .i64 r.Until, .int .i64 cc] 25))) W9.heap.size 25 5 (X1.out.size)
            (try simp only [World.size_alloc, World.size_drew] at bx2)
            have pr2 := Lib.hid (((Ext.refl ((W9.drew.alloc (.cells #[.int .i64 r.Zone, .int .i64 r.Grams, .int .i64 r.From, .int .i64 (d - 1), .int .i64 r.Cents, .int .i64 r.Zone, .int .i64 r.Grams, .int .i64 d, .int .i64 r.Until, .int .i64 cc] 25)))).alloc (.cells #[] 25)).own pr1.out)
            have el2 := Lib.hid bx2
            clear bx2
            refine wpAnyH_ready (rs := [4]) (by kernel_rfl) (by simp) ?_; refine AllReadyH.cons rfl (fun K hK => ?_) AllReadyH.nil; refine step_app_own rfl (.tmp 70) (.tmp 73) 31 rfl W9.heap.size 25 i0 (.agg #[.int .i64 0, .int .i64 0, .int .i64 0, .int .i64 0, .int .i64 0]) 5 40 Try.underlying31 hi0 hz0v hzz1 hzz2 rfl (by decide) (.slice (some ⟨W9.heap.size + 1, 0, none⟩) 0 0) 0 [] rfl el2.out ⟨b, off, none⟩ k c ((xs.take k).flatMap Rate.cs) rfl HL1.out (HS1.out _ (E09.out.trans X2.out)) (Rates_one _) (by unfold maxLen; omega) (by omega) X2.out.size 74 rfl k (Nat.zero_add k) ((xs.take k).flatMap Rate.cs) (List.nil_append _) ?_; intro Ap3 cp3 w3 op3 gp3; have X3 := Lib.hid (X2.out.grown gp3 (fun q hq => (el2.out.lt q hq).1)); have pr3 := Lib.hid (pr2.out.kept gp3 (Or.inr (by simp [Value.ownBlock]; try omega))); have el3 := Lib.hid op3; clear op3 gp3; (try simp only [Act.put, List.setIfInBounds_toArray, List.set_cons_zero, List.set_cons_succ]); refine hK.out _ _ ?_ (fun hHeld => ?_); (focus exact X3.out); clear hK K; (try simp only [Act.put, List.setIfInBounds_toArray, List.set_cons_zero, List.set_cons_succ])
            refine wpAnyH_ready (rs := [8]) (by kernel_rfl) (by simp) ?_; refine AllReadyH.cons rfl (fun K hK => ?_) AllReadyH.nil; refine step_app_own rfl (.tmp 74) (.tmp 77) 31 rfl W9.heap.size 25 i0 (.agg #[.int .i64 0, .int .i64 0, .int .i64 0, .int .i64 0, .int .i64 0]) 5 40 Try.underlying31 hi0 hz0v hzz1 hzz2 rfl (by decide) (.slice Ap3 k cp3) k ((xs.take k).flatMap Rate.cs) rfl el3.out ⟨W9.heap.size, 0, none⟩ 2 2 ((oldR d r).cs ++ (newR d cc r).cs) rfl rfl (fun j u hj => by rw [Addr.add_mid, Nat.zero_add]; exact own_at pr3.out hj) HP1.out (by unfold maxLen; omega) (by omega) X3.out.size 78 rfl (k + 2) rfl ((xs.take k).flatMap Rate.cs ++ ((oldR d r).cs ++ (newR d cc r).cs)) rfl ?_; intro Ap4 cp4 w4 op4 gp4; have X4 := Lib.hid (X3.out.grown gp4 (fun q hq => (el3.out.lt q hq).1)); have el4 := Lib.hid op4; clear op4 gp4; (try simp only [Act.put, List.setIfInBounds_toArray, List.set_cons_zero, List.set_cons_succ]); refine hK.out _ _ ?_ (fun hHeld => ?_); (focus exact X4.out); clear hK K; (try simp only [Act.put, List.setIfInBounds_toArray, List.set_cons_zero, List.set_cons_succ])
            refine wpAnyH_ready (rs := [13]) (by kernel_rfl) (by simp) ?_; refine AllReadyH.cons rfl (fun K hK => ?_) AllReadyH.nil; refine step_app_own rfl (.tmp 78) (.tmp 82) 31 rfl W9.heap.size 25 i0 (.agg #[.int .i64 0, .int .i64 0, .int .i64 0, .int .i64 0, .int .i64 0]) 5 40 Try.underlying31 hi0 hz0v hzz1 hzz2 rfl (by decide) (.slice Ap4 (k + 2) cp4) (k + 2) ((xs.take k).flatMap Rate.cs ++ ((oldR d r).cs ++ (newR d cc r).cs)) rfl el4.out A2 (n - (k + 1)) (c - (k + 1)) ((xs.drop (k + 1)).flatMap Rate.cs) rfl HL2.out (hsrc.out _ (E09.out.trans X4.out)) (Rates_one _) (by unfold maxLen; omega) (by omega) X4.out.size 83 rfl (n + 1) hnk ((raiseL xs k r d cc).flatMap Rate.cs) HE.out ?_; intro A9 c9 W10 op5 gp5; have X5 := Lib.hid (X4.out.grown gp5 (fun q hq => (el4.out.lt q hq).1)); have el5 := Lib.hid op5; clear op5 gp5; (try simp only [Act.put, List.setIfInBounds_toArray, List.set_cons_zero, List.set_cons_succ]); refine hK.out _ _ ?_ (fun hHeld => ?_); (focus exact X5.out); clear hK K; (try simp only [Act.put, List.setIfInBounds_toArray, List.set_cons_zero, List.set_cons_succ])
            (refine wpAnyH_take (i := 14) (v := ?_) rfl (by kernel_rfl) (by kernel_rfl) (by kernel_rfl) (fun _ _ _ h => h) (Or.inl ⟨by rfl, ?_⟩) (by assumption) ?_); rotate_left 1; (focus (intro w hSw; (try dsimp only at hSw); go_simp; (try with_reducible rfl))); (try simp only [Act.put, List.setIfInBounds_toArray, List.set_cons_zero, List.set_cons_succ])
            refine wpAnyH_done (by kernel_rfl) ?_ _
            have OD := Lib.hid el5.out
            have X10 := Lib.hid X5.out
          rotate_left 1
        all_goals
          (try simp only [List.getElem_toArray, List.getElem_cons_succ, List.getElem_cons_zero, List.setIfInBounds_toArray, List.set_cons_succ, List.set_cons_zero])
          have LF := Lib.hid (show RateL W10 A9 (n + 1) (raiseL xs k r d cc) from ⟨by rw [raiseL_len (by rw [H.out]; exact hlt), H.out], by omega, HWF.out k r HX.out, Rd.own OD.out⟩)
          have CB := Lib.hid (fun cx => l8Good_any A9 (n + 1) cx (raiseL xs k r d cc) W10 LF.out)
          have u4 : W10.cell? ⟨wr.heap.size, 4, none⟩ = some (.int .i64 r.Cents) := X10.out.cell1 (own_at R0.out (j := 4) rfl)
          have zw : wr.heap.size < W10.heap.size := World.block_lt_of_cell? W10 _ u4
          have hRA := Lib.hid (show raiseAt xs k r d cc = if r.Cents = cc then none else if RatesOk (raiseL xs k r d cc) then some (raiseL xs k r d cc) else none from rfl)
          have EF := Lib.hid (E09.out.trans X10.out)
          have hrb := Lib.hid (show w.heap.size ≤ W9.heap.size from E09.out.size)
          clear LF
          cases hok : RatesOk (raiseL xs k r d cc)
          · have hRN := Lib.hid (show raiseO xs z g d cc = none by rw [HR.out, hRA.out, hok]; split <;> rfl)
            rw [hok] at CB
            go_wp2_with (go_at_call 52; refine (CB.out _).mono ?_; rintro e wz ⟨rfl, hz⟩; have u5 := hz.cell1 u4; have zy : wr.heap.size < wz.heap.size := World.block_lt_of_cell? wz _ u5)
            go_ret2
            rw [hRN.out]
            exact RaisePost.empty (EF.out.trans hz)
          · by_cases hc : r.Cents = cc
            · have hRN := Lib.hid (show raiseO xs z g d cc = none by rw [HR.out, hRA.out, if_pos hc])
              have t1 : (cc == r.Cents) = true := by simp [hc]
              have t2 : decide (cc = r.Cents) = true := by simp [hc]
              rw [hok] at CB
              clear hc
              go_wp2_with (go_at_call 52; refine (CB.out _).mono ?_; rintro e wz ⟨rfl, hz⟩; have u5 := hz.cell1 u4; have zy : wr.heap.size < wz.heap.size := World.block_lt_of_cell? wz _ u5)
              go_ret2
              rw [hRN.out]
              exact RaisePost.empty (EF.out.trans hz)
            · have hRN := Lib.hid (show raiseO xs z g d cc = some (raiseL xs k r d cc) by rw [HR.out, hRA.out, if_neg hc, if_pos hok])
              have t1 : (cc == r.Cents) = false := by simp; omega
              have t2 : decide (cc = r.Cents) = false := by simp; omega
              rw [hok] at CB
              clear hc
              go_wp2_with (go_at_call 52; refine (CB.out _).mono ?_; rintro e wz ⟨rfl, hz⟩; have u5 := hz.cell1 u4; have zy : wr.heap.size < wz.heap.size := World.block_lt_of_cell? wz _ u5)
              go_ret2
              rw [hRN.out]
              exact ⟨A9, n + 1, _, rfl, own_low' (hz.own OD.out) hrb.out, EF.out.trans hz⟩
    · obtain rfl : k = n := by omega
      have HR := Lib.hid (raise_none (c := cc) (show noneTo (hitR z g d) xs xs.length by rw [H.out]; exact HN.out))
      go_wp2
      go_ret2
      rw [HR.out]
      exact RaisePost.empty he
end Go.Proofs.Ytkganlojknhajaa
