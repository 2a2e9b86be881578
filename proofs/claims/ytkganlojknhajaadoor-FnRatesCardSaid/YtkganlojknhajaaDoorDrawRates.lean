/- The draw of a list of rates (made by wip/drawr.py). -/
import Derived.Test.YtkganlojknhajaaDoorDrawRate
import Derived.Test.YtkganlojknhajaaDoorRateL
import Derived.Deep.RegionHeld3
import Derived.Deep.CutBlock
namespace Go.Proofs.YtkganlojknhajaaDoor
open Go.RowKit
set_option linter.unusedVariables false
set_option linter.unusedSimpArgs false
attribute [local go_sem] ExtOf.cell

theorem own_list (w : World) (T : TypeId) (l : List Int) (h : l.length ≤ maxLen := by decide) : (w.alloc (.cells (ints l).toArray T)).ownsRow w.heap.size T 1 (.slice (some ⟨w.heap.size, 0, none⟩) l.length l.length) l.length (ints l) :=
  ⟨by simp [ints], .inr ⟨w.heap.size, l.length, (ints l).toArray, rfl, Nat.le_refl _, heap_alloc_new w _, Nat.le_refl _, h, by simp [ints], by rw [Nat.mul_one, List.take_of_length_le (by simp [ints])]⟩⟩
theorem rate_one (r : Rate) : ∀ u ∈ r.cs, u.oneCell' = true := fun u hu => by
  simp only [Rate.cs, List.mem_cons, List.not_mem_nil, or_false] at hu
  rcases hu with rfl | rfl | rfl | rfl | rfl <;> rfl
theorem step_app_rate {ops : Array Oper} {o : Oper} {a : Act} {w : World} {K : Act → World → Prop} {Q : Exit → Act → World → Prop} {E : Prop}
    (hg : o.guard = none) (s x : Operand) (hop : o.op = Op.call { callee := Callee.builtin Builtin.append, args := #[s, x], argTypes := #[31, 31] })
    (base : Nat) (v : Value) (n : Nat) (xs : List Value) (hs : a.eval s = v) (hown : w.ownsRow base 26 5 v n xs)
    {r : Rate} {bv : Nat} (gp : Nat) (news : List Value) (hx : a.eval x = .slice (some ⟨gp, 0, none⟩) 1 1) (hv : w.ownsRow bv 26 5 (.slice (some ⟨gp, 0, none⟩) 1 1) 1 r.cs)
    (h63 : n ≤ 1000000) (hbase : base ≤ w.heap.size) (k : Nat) (hd : o.dst = some k)
    (h : ∀ A' c' w', w'.ownsRow base 26 5 (.slice A' (n + 1) c') (n + 1) (xs ++ r.cs) → w.grownBy w' v.ownBlock → K (a.put (some k) (.slice A' (n + 1) c')) w') :
    if Region.wanted o (yielded ops a.tmps) = true then Oper.wp Tryd.prog o a w K Q else E := by
  obtain ⟨i0, hi0, hz0v, hz1, hz2⟩ := info_parts infoRate
  exact step_app_own hg s x 31 hop base 26 i0 (.agg #[.int .i64 0, .int .i64 0, .int .i64 0, .int .i64 0, .int .i64 0]) 5 40 Tryd.underlying31 hi0 hz0v hz1 hz2 rfl (by decide) v n xs hs hown ⟨gp, 0, none⟩ 1 1 r.cs hx rfl
    (fun j u hj => by rw [Addr.add_mid, Nat.zero_add]; exact own_at hv hj) (rate_one r) (by unfold maxLen; omega) (by omega) hbase k hd (n + 1) rfl (xs ++ r.cs) rfl h
theorem app_rate {ops : Array Oper} {rest : List Oper} {o : Oper} {a : Act} {w : World} {Q : Exit → Act → World → Prop} (hgd : o.guard = none) (s x : Operand)
    (ho : o.op = .call { callee := .builtin .append, args := #[s, x], argTypes := #[31, 31] })
    (base n c : Nat) (A : Option Addr) (xs : List Value) (r : Rate) (bv gp : Nat) (hs : a.eval s = .slice A n c) (hx : a.eval x = .slice (some ⟨gp, 0, none⟩) 1 1)
    (hown : w.ownsRow base 26 5 (.slice A n c) n xs) (hv : w.ownsRow bv 26 5 (.slice (some ⟨gp, 0, none⟩) 1 1) 1 r.cs) (hn : n ≤ 1000000) (hb : base ≤ w.heap.size)
    (h : ∀ A' c' w', w'.ownsRow base 26 5 (.slice A' (n + 1) c') (n + 1) (xs ++ r.cs) → w.grownBy w' (Value.ownBlock (.slice A n c)) → wpList Tryd.prog ops Q rest (a.put o.dst (.slice A' (n + 1) c')) w') : wpList Tryd.prog ops Q (o :: rest) a w := by
  obtain ⟨i0, hi, hz0, hz1, hz2⟩ := info_parts infoRate
  refine wpList_append_own w hgd s x 31 ho base 26 i0 (.agg #[.int .i64 0, .int .i64 0, .int .i64 0, .int .i64 0, .int .i64 0]) 5 40 Tryd.underlying31 hi hz0 hz1 hz2 rfl (by decide) (.slice A n c) n xs hs hown ⟨gp, 0, none⟩ 1 1 r.cs hx rfl
    (fun j u hj => by rw [Addr.add_mid, Nat.zero_add]; exact own_at hv hj) (rate_one r) (by unfold maxLen; omega) (by omega) hb ?_
  intro v' w' h1 h2 h3
  obtain ⟨A', c', rfl⟩ := own_slice h1
  exact h A' c' w' h1 h2
theorem tab_three (j : Nat) (h : j < 3) : ∃ x : Int, ([20, 50, 100] : List Int)[j]? = some x ∧ 20 ≤ x ∧ x ≤ 100 := by
  obtain rfl | rfl | rfl : j = 0 ∨ j = 1 ∨ j = 2 := by omega
  · exact ⟨20, rfl, by omega, by omega⟩
  · exact ⟨50, rfl, by omega, by omega⟩
  · exact ⟨100, rfl, by omega, by omega⟩
/-- The list so far: n rates, all of them small, b choices taken. -/
structure RSt2 (w0 : World) (g b : Nat) (A : Option Addr) (n c : Nat) (w : World) : Prop where
  st : ∃ xs : List Rate, DSt w0 g b 26 5 A n c (xs.flatMap Rate.cs) w ∧ ∀ x ∈ xs, RateSm x
theorem RSt2.push {w0 w : World} {g b : Nat} {A' : Option Addr} {n c' : Nat} {xs : List Rate} {r : Rate} (h : DSt w0 g b 26 5 A' (n + 1) c' (xs.flatMap Rate.cs ++ r.cs) w) (hx : ∀ x ∈ xs, RateSm x) (hr : RateSm r) : RSt2 w0 g b A' (n + 1) c' w :=
  ⟨⟨xs ++ [r], by simpa [List.flatMap_append] using h, fun x hm => by
    rcases List.mem_append.1 hm with hm | hm
    · exact hx x hm
    · simp at hm; subst hm; exact hr⟩⟩
def slen : Value → Nat
  | .slice _ n _ => n
  | _ => 0
set_option maxRecDepth 100000 in
set_option maxHeartbeats 4000000 in
theorem rates_any (g b : Nat) (w : World) (h : Cur w g b) (hb : b ≤ 100000) :
    Calls Tryd.prog 28 #[.pointer (some ⟨g, 0, none⟩)] w (CurPost g (b + 1000) w (fun v w' => ∃ (A : Option Addr) (n c : Nat), v = .slice A n c ∧ n ≤ 40 ∧ RSt2 w g (b + 1000) A n c w')) := by
  have hgw := h.lt
  have o0 := own_empty w w.heap.size 26 5 (Nat.le_refl _)
  have S0 := Lib.hid (show DSt w g b 26 5 (some ⟨w.heap.size, 0, none⟩) 0 0 [] (w.alloc (.cells #[] 26)) from ⟨h.ext ((Ext.refl _).alloc _), o0, grown_of_ext ((Ext.refl _).alloc _), hgw⟩)
  clear o0
  go_enter Tryd.func28, Tryd.ntmps28
  go_wp2
  go_loopw [3, 4] (fun o i wr => ∃ (k : Nat) (A : Option Addr) (n c : Nat), k ≤ 3 ∧ i = .int .i64 k ∧ o = .slice A n c ∧ n ≤ 6 * k ∧ RSt2 w g (b + 90 * k) A n c wr) (fun _ i _ => 3 - (intOf i).toNat)
  case atStart => exact ⟨0, _, 0, 0, Nat.zero_le _, rfl, rfl, Nat.le_refl _, ⟨[], S0.out, fun x hx => by cases hx⟩⟩
  case round =>
    obtain ⟨k, A, n, c, hk, rfl, rfl, hn, hst⟩ := hrel
    by_cases hlt : k < 3
    · have hkd : decide ((k : Int) < 3) = true := by simp; omega
      go_wp2
      obtain ⟨wo, rfl⟩ : ∃ wo : World, wo = wr := ⟨_, rfl⟩
      go_loopw [3, 5] (fun o i wr => ∃ (j : Nat) (A : Option Addr) (n c : Nat), j ≤ 3 ∧ i = .int .i64 j ∧ o = .slice A n c ∧ n ≤ 6 * k + 2 * j ∧ RSt2 w g (b + 90 * k + 30 * j) A n c wr) (fun _ i _ => 3 - (intOf i).toNat)
      case atStart => exact ⟨0, A, n, c, Nat.zero_le _, rfl, rfl, hn, hst⟩
      case round =>
        obtain ⟨j, A, n, c, hj, rfl, rfl, hn, hst⟩ := hrel
        obtain ⟨xs, hst2, hxs⟩ := hst.st
        have N0 := Lib.hid hst2
        have HXS := Lib.hid hxs
        clear hst hst2 hxs
        by_cases hlj : j < 3
        · go_wp2_with fail
          refine (one_any g _ 2 _ N0.out.cur (by omega) (by omega)).mono ?_
          rintro e w1 ⟨v, rfl, ⟨ok, rfl⟩, C1, G1⟩
          have N1 := Lib.hid (N0.out.draw C1 G1)
          clear C1 G1 N0
          cases ok
          · go_wp2
            go_roundw
            case rel => exact ⟨j + 1, A, n, c, by omega, by go_num, rfl, by omega, ⟨xs, N1.out.mono (by omega), HXS.out⟩⟩
            case measure => simp [intOf]; omega
          · go_upto_region 9 with fail
            obtain ⟨cs, hcs⟩ : ∃ cs, cs = xs.flatMap Rate.cs := ⟨_, rfl⟩
            rw [← hcs] at N1
            have HCS := Lib.hid hcs
            clear hcs
            go_cut [3] from 18 to 30 (fun p W => ∃ (A9 : Option Addr) (c9 m : Nat) (r : Rate), p = .slice A9 m c9 ∧ m = n + 1 ∧ DSt w g (b + 90 * k + 30 * j + 2 + 2 + 8) 26 5 A9 (n + 1) c9 (cs ++ r.cs) W ∧ RateSm r ∧ -1 ≤ r.Until ∧ -100 ≤ r.Grams ∧ r.Grams ≤ 1000)
            case first =>
              obtain ⟨x, hx, hx1, hx2⟩ := tab_three j hlj
              have hxv : ([Value.int .i64 20, Value.int .i64 50, Value.int .i64 100] : List Value)[j]'(by simp; omega) = .int .i64 x := (List.getElem?_eq_some_iff.1 (ints_get hx)).2
              refine wp_region_held_drew (S := fun _ => True) (by kernel_rfl) trivial (fun hHeld => ?_)
              have N2 := Lib.hid (N1.out.step (Ext.refl w1).drew)
              refine wpAnyH_take (i := 0) (v := ?_) rfl (by kernel_rfl) (by kernel_rfl) (by kernel_rfl) (fun _ _ _ h => h) (Or.inl ⟨by rfl, ?_⟩) trivial ?_; rotate_left 1; (focus (intro w hSw; go_simp; (try with_reducible rfl))); (try simp only [Act.put, List.setIfInBounds_toArray, List.set_cons_zero, List.set_cons_succ])
              refine wpAnyH_take (i := 1) (v := ?_) rfl (by kernel_rfl) (by kernel_rfl) (by kernel_rfl) (fun _ _ _ h => h) (Or.inl ⟨by rfl, ?_⟩) trivial ?_; rotate_left 1; (focus (intro w hSw; go_simp; (try with_reducible rfl))); (try simp only [Act.put, List.setIfInBounds_toArray, List.set_cons_zero, List.set_cons_succ])
              refine wpAnyH_take (i := 2) (v := ?_) rfl (by kernel_rfl) (by kernel_rfl) (by kernel_rfl) (fun _ _ _ h => h) (Or.inl ⟨by rfl, ?_⟩) trivial ?_; rotate_left 1; (focus (intro w hSw; go_simp; (try with_reducible rfl))); (try simp only [Act.put, List.setIfInBounds_toArray, List.set_cons_zero, List.set_cons_succ])
              refine wpAnyH_take (i := 4) (v := ?_) rfl (by kernel_rfl) (by kernel_rfl) (by kernel_rfl) (fun _ _ _ h => h) (Or.inl ⟨by rfl, ?_⟩) trivial ?_; rotate_left 1; (focus (intro w hSw; go_simp; (try with_reducible rfl))); (try simp only [Act.put, List.setIfInBounds_toArray, List.set_cons_zero, List.set_cons_succ])
              refine wpAnyH_take (i := 7) (v := ?_) rfl (by kernel_rfl) (by kernel_rfl) (by kernel_rfl) (fun _ _ _ h => h) (Or.inl ⟨by rfl, ?_⟩) trivial ?_; rotate_left 1; (focus (intro w hSw; go_simp; (try with_reducible rfl))); (try simp only [Act.put, List.setIfInBounds_toArray, List.set_cons_zero, List.set_cons_succ])
              refine wpAnyH_ready (rs := [3, 8]) (by kernel_rfl) (by simp) ?_; refine AllReadyH.cons rfl (fun K hK => ?_) (AllReadyH.cons rfl (fun K hK => ?_) (AllReadyH.nil))
              focus
                have N1 := Lib.hid (N2.out.step ((Ext.refl (w1.drew)).alloc (.cells #[.int .i64 20, .int .i64 50, .int .i64 100] 3)))
                go_simp; (try simp only [Act.put, List.setIfInBounds_toArray, List.set_cons_zero, List.set_cons_succ]); (try go_wp2_with fail); refine hK.out _ _ trivial fun _ => ?_; clear hK K; (try simp only [Act.put, List.setIfInBounds_toArray, List.set_cons_zero, List.set_cons_succ])
                have o1 := own_list (w1.drew) 3 [20, 50, 100]
                (try simp only [World.size_alloc, World.size_drew] at o1)
                have l1 := Lib.hid o1
                clear o1
                have zl1 : g < w1.heap.size := by have h9 := N2.out.cur.lt; (try simp only [World.size_alloc, World.size_drew] at h9); exact h9
                refine wpAnyH_take (i := 5) (v := ?_) rfl (by kernel_rfl) (by kernel_rfl) (by kernel_rfl) (fun _ _ _ h => h) (Or.inl ⟨by rfl, ?_⟩) trivial ?_; rotate_left 1; (focus (intro w hSw; go_simp; (try with_reducible rfl))); (try simp only [Act.put, List.setIfInBounds_toArray, List.set_cons_zero, List.set_cons_succ])
                refine wpAnyH_ready (rs := [6, 8]) (by kernel_rfl) (by simp) ?_; refine AllReadyH.cons rfl (fun K hK => ?_) (AllReadyH.cons rfl (fun K hK => ?_) (AllReadyH.nil))
                focus
                  have cx2 := own_at l1.out (j := j) (ints_get hx)
                  go_simp; (try simp only [Act.put, List.setIfInBounds_toArray, List.set_cons_zero, List.set_cons_succ]); (try go_wp2_with fail); refine hK.out _ _ trivial fun _ => ?_; clear hK K; (try simp only [Act.put, List.setIfInBounds_toArray, List.set_cons_zero, List.set_cons_succ])
                  clear cx2
                  have N3 := Lib.hid (N1.out.step ((Ext.refl ((w1.drew.alloc (.cells #[.int .i64 20, .int .i64 50, .int .i64 100] 3)))).alloc (.cells #[.int .i64 0, .int .i64 0, .int .i64 5] 3)))
                  refine wpAnyH_ready (rs := [8]) (by kernel_rfl) (by simp) ?_; refine AllReadyH.cons rfl (fun K hK => ?_) AllReadyH.nil; go_simp; (try simp only [Act.put, List.setIfInBounds_toArray, List.set_cons_zero, List.set_cons_succ]); (try go_wp2_with fail); refine hK.out _ _ trivial fun _ => ?_; clear hK K; (try simp only [Act.put, List.setIfInBounds_toArray, List.set_cons_zero, List.set_cons_succ])
                  have l3 := Lib.hid (((Ext.refl ((w1.drew.alloc (.cells #[.int .i64 20, .int .i64 50, .int .i64 100] 3)))).alloc (.cells #[.int .i64 0, .int .i64 0, .int .i64 5] 3)).own l1.out)
                  have o3 := own_list ((w1.drew.alloc (.cells #[.int .i64 20, .int .i64 50, .int .i64 100] 3))) 3 [0, 0, 5]
                  (try simp only [World.size_alloc, World.size_drew] at o3)
                  have m3 := Lib.hid o3
                  clear o3
                  have zm3 : g < w1.heap.size + 1 := by have h9 := N1.out.cur.lt; (try simp only [World.size_alloc, World.size_drew] at h9); exact h9
                  refine wpAnyH_ready (rs := [9]) (by kernel_rfl) (by simp) ?_; refine AllReadyH.cons rfl (fun K hK => ?_) AllReadyH.nil; go_simp; (try simp only [Act.put, List.setIfInBounds_toArray, List.set_cons_zero, List.set_cons_succ]); (try go_wp2_with (go_at_call 29; refine (among_any g (b + 90 * k + 30 * j + 2) _ 3 3 [0, 0, 5] 0 5 _ N3.out.cur (by decide) (by omega) (by omega) (by omega) (Rd.own m3.out) (Off.ne (by omega))).mono ?_; rintro e w4 ⟨v, rfl, ⟨u, rfl, u1, u2⟩, C4, G4⟩)); refine hK.out _ _ trivial fun _ => ?_; clear hK K; (try simp only [Act.put, List.setIfInBounds_toArray, List.set_cons_zero, List.set_cons_succ])
                  have N4 := Lib.hid (N3.out.draw C4 G4)
                  have l4 := Lib.hid (l3.out.kept G4 (Or.inr (by simp [Value.ownBlock]; omega)))
                  clear C4 G4
                  refine wpAnyH_ready (rs := [10]) (by kernel_rfl) (by simp) ?_; refine AllReadyH.cons rfl (fun K hK => ?_) AllReadyH.nil; go_simp; (try simp only [Act.put, List.setIfInBounds_toArray, List.set_cons_zero, List.set_cons_succ]); (try go_wp2_with (go_at_call 47; refine (rate_any g (b + 90 * k + 30 * j + 2 + 2) (k : Int) x u _ N4.out.cur (by omega) (by omega) (by omega) (by omega)).mono ?_; rintro e w5 ⟨v, rfl, ⟨r, rfl, r1, r2, r3⟩, C5, G5⟩; have r4 : -100 ≤ r.Grams ∧ r.Grams ≤ 1000 := (by omega); clear r3)); refine hK.out _ _ trivial fun _ => ?_; clear hK K; (try simp only [Act.put, List.setIfInBounds_toArray, List.set_cons_zero, List.set_cons_succ])
                  have N5 := Lib.hid (N4.out.draw C5 G5)
                  clear C5 G5
                  have N6 := Lib.hid (N5.out.step ((Ext.refl (w5)).alloc (.cells #[.int .i64 r.Zone, .int .i64 r.Grams, .int .i64 r.From, .int .i64 r.Until, .int .i64 r.Cents] 26)))
                  refine wpAnyH_ready (rs := [11]) (by kernel_rfl) (by simp) ?_; refine AllReadyH.cons rfl (fun K hK => ?_) AllReadyH.nil; go_simp; (try simp only [Act.put, List.setIfInBounds_toArray, List.set_cons_zero, List.set_cons_succ]); (try go_wp2_with fail); refine hK.out _ _ trivial fun _ => ?_; clear hK K; (try simp only [Act.put, List.setIfInBounds_toArray, List.set_cons_zero, List.set_cons_succ])
                  have o6 := own_block (w5) 26 r.cs
                  (try simp only [World.size_alloc, World.size_drew] at o6)
                  have p6 := Lib.hid o6
                  clear o6
                  have zp6 : g < w5.heap.size := by have h9 := N5.out.cur.lt; (try simp only [World.size_alloc, World.size_drew] at h9); exact h9
                  refine wpAnyH_ready (rs := [12]) (by kernel_rfl) (by simp) ?_; refine AllReadyH.cons rfl (fun K hK => ?_) AllReadyH.nil; refine step_app_rate rfl (.tmp 18) (.tmp 29) rfl w.heap.size (.slice A n c) n cs rfl N6.out.row w5.heap.size r.cs rfl p6.out (by omega) N6.out.sz_le 30 rfl ?_; intro A9 c9 W9 op7 gp7; refine hK.out _ _ trivial fun _ => ?_; clear hK K; (try simp only [Act.put, List.setIfInBounds_toArray, List.set_cons_zero, List.set_cons_succ])
                  have NF := Lib.hid (N6.out.app op7 gp7)
                  clear op7 gp7
                  refine wpAnyH_take (i := 13) (v := ?_) rfl (by kernel_rfl) (by kernel_rfl) (by kernel_rfl) (fun _ _ _ h => h) (Or.inl ⟨by rfl, ?_⟩) trivial ?_; rotate_left 1; (focus (intro w hSw; go_simp; (try with_reducible rfl))); (try simp only [Act.put, List.setIfInBounds_toArray, List.set_cons_zero, List.set_cons_succ])
                  refine wpAnyH_done (by kernel_rfl) ?_ _
                rotate_left 1
                focus
                  have N2 := Lib.hid (N1.out.step ((Ext.refl ((w1.drew.alloc (.cells #[.int .i64 20, .int .i64 50, .int .i64 100] 3)))).alloc (.cells #[.int .i64 0, .int .i64 0, .int .i64 5] 3)))
                  go_simp; (try simp only [Act.put, List.setIfInBounds_toArray, List.set_cons_zero, List.set_cons_succ]); (try go_wp2_with fail); refine hK.out _ _ trivial fun _ => ?_; clear hK K; (try simp only [Act.put, List.setIfInBounds_toArray, List.set_cons_zero, List.set_cons_succ])
                  have l2 := Lib.hid (((Ext.refl ((w1.drew.alloc (.cells #[.int .i64 20, .int .i64 50, .int .i64 100] 3)))).alloc (.cells #[.int .i64 0, .int .i64 0, .int .i64 5] 3)).own l1.out)
                  have o2 := own_list ((w1.drew.alloc (.cells #[.int .i64 20, .int .i64 50, .int .i64 100] 3))) 3 [0, 0, 5]
                  (try simp only [World.size_alloc, World.size_drew] at o2)
                  have m2 := Lib.hid o2
                  clear o2
                  have zm2 : g < w1.heap.size + 1 := by have h9 := N1.out.cur.lt; (try simp only [World.size_alloc, World.size_drew] at h9); exact h9
                  refine wpAnyH_ready (rs := [6, 9]) (by kernel_rfl) (by simp) ?_; refine AllReadyH.cons rfl (fun K hK => ?_) (AllReadyH.cons rfl (fun K hK => ?_) (AllReadyH.nil))
                  focus
                    have cx3 := own_at l2.out (j := j) (ints_get hx)
                    go_simp; (try simp only [Act.put, List.setIfInBounds_toArray, List.set_cons_zero, List.set_cons_succ]); (try go_wp2_with fail); refine hK.out _ _ trivial fun _ => ?_; clear hK K; (try simp only [Act.put, List.setIfInBounds_toArray, List.set_cons_zero, List.set_cons_succ])
                    clear cx3
                    refine wpAnyH_ready (rs := [9]) (by kernel_rfl) (by simp) ?_; refine AllReadyH.cons rfl (fun K hK => ?_) AllReadyH.nil; go_simp; (try simp only [Act.put, List.setIfInBounds_toArray, List.set_cons_zero, List.set_cons_succ]); (try go_wp2_with (go_at_call 29; refine (among_any g (b + 90 * k + 30 * j + 2) _ 3 3 [0, 0, 5] 0 5 _ N2.out.cur (by decide) (by omega) (by omega) (by omega) (Rd.own m2.out) (Off.ne (by omega))).mono ?_; rintro e w4 ⟨v, rfl, ⟨u, rfl, u1, u2⟩, C4, G4⟩)); refine hK.out _ _ trivial fun _ => ?_; clear hK K; (try simp only [Act.put, List.setIfInBounds_toArray, List.set_cons_zero, List.set_cons_succ])
                    have N4 := Lib.hid (N2.out.draw C4 G4)
                    have l4 := Lib.hid (l2.out.kept G4 (Or.inr (by simp [Value.ownBlock]; omega)))
                    clear C4 G4
                    refine wpAnyH_ready (rs := [10]) (by kernel_rfl) (by simp) ?_; refine AllReadyH.cons rfl (fun K hK => ?_) AllReadyH.nil; go_simp; (try simp only [Act.put, List.setIfInBounds_toArray, List.set_cons_zero, List.set_cons_succ]); (try go_wp2_with (go_at_call 47; refine (rate_any g (b + 90 * k + 30 * j + 2 + 2) (k : Int) x u _ N4.out.cur (by omega) (by omega) (by omega) (by omega)).mono ?_; rintro e w5 ⟨v, rfl, ⟨r, rfl, r1, r2, r3⟩, C5, G5⟩; have r4 : -100 ≤ r.Grams ∧ r.Grams ≤ 1000 := (by omega); clear r3)); refine hK.out _ _ trivial fun _ => ?_; clear hK K; (try simp only [Act.put, List.setIfInBounds_toArray, List.set_cons_zero, List.set_cons_succ])
                    have N5 := Lib.hid (N4.out.draw C5 G5)
                    clear C5 G5
                    have N6 := Lib.hid (N5.out.step ((Ext.refl (w5)).alloc (.cells #[.int .i64 r.Zone, .int .i64 r.Grams, .int .i64 r.From, .int .i64 r.Until, .int .i64 r.Cents] 26)))
                    refine wpAnyH_ready (rs := [11]) (by kernel_rfl) (by simp) ?_; refine AllReadyH.cons rfl (fun K hK => ?_) AllReadyH.nil; go_simp; (try simp only [Act.put, List.setIfInBounds_toArray, List.set_cons_zero, List.set_cons_succ]); (try go_wp2_with fail); refine hK.out _ _ trivial fun _ => ?_; clear hK K; (try simp only [Act.put, List.setIfInBounds_toArray, List.set_cons_zero, List.set_cons_succ])
                    have o6 := own_block (w5) 26 r.cs
                    (try simp only [World.size_alloc, World.size_drew] at o6)
                    have p6 := Lib.hid o6
                    clear o6
                    have zp6 : g < w5.heap.size := by have h9 := N5.out.cur.lt; (try simp only [World.size_alloc, World.size_drew] at h9); exact h9
                    refine wpAnyH_ready (rs := [12]) (by kernel_rfl) (by simp) ?_; refine AllReadyH.cons rfl (fun K hK => ?_) AllReadyH.nil; refine step_app_rate rfl (.tmp 18) (.tmp 29) rfl w.heap.size (.slice A n c) n cs rfl N6.out.row w5.heap.size r.cs rfl p6.out (by omega) N6.out.sz_le 30 rfl ?_; intro A9 c9 W9 op7 gp7; refine hK.out _ _ trivial fun _ => ?_; clear hK K; (try simp only [Act.put, List.setIfInBounds_toArray, List.set_cons_zero, List.set_cons_succ])
                    have NF := Lib.hid (N6.out.app op7 gp7)
                    clear op7 gp7
                    refine wpAnyH_take (i := 13) (v := ?_) rfl (by kernel_rfl) (by kernel_rfl) (by kernel_rfl) (fun _ _ _ h => h) (Or.inl ⟨by rfl, ?_⟩) trivial ?_; rotate_left 1; (focus (intro w hSw; go_simp; (try with_reducible rfl))); (try simp only [Act.put, List.setIfInBounds_toArray, List.set_cons_zero, List.set_cons_succ])
                    refine wpAnyH_done (by kernel_rfl) ?_ _
                  rotate_left 1
                  focus
                    go_simp; (try simp only [Act.put, List.setIfInBounds_toArray, List.set_cons_zero, List.set_cons_succ]); (try go_wp2_with (go_at_call 29; refine (among_any g (b + 90 * k + 30 * j + 2) _ 3 3 [0, 0, 5] 0 5 _ N2.out.cur (by decide) (by omega) (by omega) (by omega) (Rd.own m2.out) (Off.ne (by omega))).mono ?_; rintro e w3 ⟨v, rfl, ⟨u, rfl, u1, u2⟩, C3, G3⟩)); refine hK.out _ _ trivial fun _ => ?_; clear hK K; (try simp only [Act.put, List.setIfInBounds_toArray, List.set_cons_zero, List.set_cons_succ])
                    have N3 := Lib.hid (N2.out.draw C3 G3)
                    have l3 := Lib.hid (l2.out.kept G3 (Or.inr (by simp [Value.ownBlock]; omega)))
                    clear C3 G3
                    have cx4 := own_at l3.out (j := j) (ints_get hx)
                    refine wpAnyH_ready (rs := [6]) (by kernel_rfl) (by simp) ?_; refine AllReadyH.cons rfl (fun K hK => ?_) AllReadyH.nil; go_simp; (try simp only [Act.put, List.setIfInBounds_toArray, List.set_cons_zero, List.set_cons_succ]); (try go_wp2_with fail); refine hK.out _ _ trivial fun _ => ?_; clear hK K; (try simp only [Act.put, List.setIfInBounds_toArray, List.set_cons_zero, List.set_cons_succ])
                    clear cx4
                    refine wpAnyH_ready (rs := [10]) (by kernel_rfl) (by simp) ?_; refine AllReadyH.cons rfl (fun K hK => ?_) AllReadyH.nil; go_simp; (try simp only [Act.put, List.setIfInBounds_toArray, List.set_cons_zero, List.set_cons_succ]); (try go_wp2_with (go_at_call 47; refine (rate_any g (b + 90 * k + 30 * j + 2 + 2) (k : Int) x u _ N3.out.cur (by omega) (by omega) (by omega) (by omega)).mono ?_; rintro e w5 ⟨v, rfl, ⟨r, rfl, r1, r2, r3⟩, C5, G5⟩; have r4 : -100 ≤ r.Grams ∧ r.Grams ≤ 1000 := (by omega); clear r3)); refine hK.out _ _ trivial fun _ => ?_; clear hK K; (try simp only [Act.put, List.setIfInBounds_toArray, List.set_cons_zero, List.set_cons_succ])
                    have N5 := Lib.hid (N3.out.draw C5 G5)
                    clear C5 G5
                    have N6 := Lib.hid (N5.out.step ((Ext.refl (w5)).alloc (.cells #[.int .i64 r.Zone, .int .i64 r.Grams, .int .i64 r.From, .int .i64 r.Until, .int .i64 r.Cents] 26)))
                    refine wpAnyH_ready (rs := [11]) (by kernel_rfl) (by simp) ?_; refine AllReadyH.cons rfl (fun K hK => ?_) AllReadyH.nil; go_simp; (try simp only [Act.put, List.setIfInBounds_toArray, List.set_cons_zero, List.set_cons_succ]); (try go_wp2_with fail); refine hK.out _ _ trivial fun _ => ?_; clear hK K; (try simp only [Act.put, List.setIfInBounds_toArray, List.set_cons_zero, List.set_cons_succ])
                    have o6 := own_block (w5) 26 r.cs
                    (try simp only [World.size_alloc, World.size_drew] at o6)
                    have p6 := Lib.hid o6
                    clear o6
                    have zp6 : g < w5.heap.size := by have h9 := N5.out.cur.lt; (try simp only [World.size_alloc, World.size_drew] at h9); exact h9
                    refine wpAnyH_ready (rs := [12]) (by kernel_rfl) (by simp) ?_; refine AllReadyH.cons rfl (fun K hK => ?_) AllReadyH.nil; refine step_app_rate rfl (.tmp 18) (.tmp 29) rfl w.heap.size (.slice A n c) n cs rfl N6.out.row w5.heap.size r.cs rfl p6.out (by omega) N6.out.sz_le 30 rfl ?_; intro A9 c9 W9 op7 gp7; refine hK.out _ _ trivial fun _ => ?_; clear hK K; (try simp only [Act.put, List.setIfInBounds_toArray, List.set_cons_zero, List.set_cons_succ])
                    have NF := Lib.hid (N6.out.app op7 gp7)
                    clear op7 gp7
                    refine wpAnyH_take (i := 13) (v := ?_) rfl (by kernel_rfl) (by kernel_rfl) (by kernel_rfl) (fun _ _ _ h => h) (Or.inl ⟨by rfl, ?_⟩) trivial ?_; rotate_left 1; (focus (intro w hSw; go_simp; (try with_reducible rfl))); (try simp only [Act.put, List.setIfInBounds_toArray, List.set_cons_zero, List.set_cons_succ])
                    refine wpAnyH_done (by kernel_rfl) ?_ _
                  rotate_left 1
                rotate_left 2
              rotate_left 3
              focus
                have N1 := Lib.hid (N2.out.step ((Ext.refl (w1.drew)).alloc (.cells #[.int .i64 0, .int .i64 0, .int .i64 5] 3)))
                go_simp; (try simp only [Act.put, List.setIfInBounds_toArray, List.set_cons_zero, List.set_cons_succ]); (try go_wp2_with fail); refine hK.out _ _ trivial fun _ => ?_; clear hK K; (try simp only [Act.put, List.setIfInBounds_toArray, List.set_cons_zero, List.set_cons_succ])
                have o1 := own_list (w1.drew) 3 [0, 0, 5]
                (try simp only [World.size_alloc, World.size_drew] at o1)
                have m1 := Lib.hid o1
                clear o1
                have zm1 : g < w1.heap.size := by have h9 := N2.out.cur.lt; (try simp only [World.size_alloc, World.size_drew] at h9); exact h9
                refine wpAnyH_ready (rs := [3, 9]) (by kernel_rfl) (by simp) ?_; refine AllReadyH.cons rfl (fun K hK => ?_) (AllReadyH.cons rfl (fun K hK => ?_) (AllReadyH.nil))
                focus
                  have N2 := Lib.hid (N1.out.step ((Ext.refl ((w1.drew.alloc (.cells #[.int .i64 0, .int .i64 0, .int .i64 5] 3)))).alloc (.cells #[.int .i64 20, .int .i64 50, .int .i64 100] 3)))
                  go_simp; (try simp only [Act.put, List.setIfInBounds_toArray, List.set_cons_zero, List.set_cons_succ]); (try go_wp2_with fail); refine hK.out _ _ trivial fun _ => ?_; clear hK K; (try simp only [Act.put, List.setIfInBounds_toArray, List.set_cons_zero, List.set_cons_succ])
                  have m2 := Lib.hid (((Ext.refl ((w1.drew.alloc (.cells #[.int .i64 0, .int .i64 0, .int .i64 5] 3)))).alloc (.cells #[.int .i64 20, .int .i64 50, .int .i64 100] 3)).own m1.out)
                  have o2 := own_list ((w1.drew.alloc (.cells #[.int .i64 0, .int .i64 0, .int .i64 5] 3))) 3 [20, 50, 100]
                  (try simp only [World.size_alloc, World.size_drew] at o2)
                  have l2 := Lib.hid o2
                  clear o2
                  have zl2 : g < w1.heap.size + 1 := by have h9 := N1.out.cur.lt; (try simp only [World.size_alloc, World.size_drew] at h9); exact h9
                  refine wpAnyH_take (i := 5) (v := ?_) rfl (by kernel_rfl) (by kernel_rfl) (by kernel_rfl) (fun _ _ _ h => h) (Or.inl ⟨by rfl, ?_⟩) trivial ?_; rotate_left 1; (focus (intro w hSw; go_simp; (try with_reducible rfl))); (try simp only [Act.put, List.setIfInBounds_toArray, List.set_cons_zero, List.set_cons_succ])
                  refine wpAnyH_ready (rs := [6, 9]) (by kernel_rfl) (by simp) ?_; refine AllReadyH.cons rfl (fun K hK => ?_) (AllReadyH.cons rfl (fun K hK => ?_) (AllReadyH.nil))
                  focus
                    have cx3 := own_at l2.out (j := j) (ints_get hx)
                    go_simp; (try simp only [Act.put, List.setIfInBounds_toArray, List.set_cons_zero, List.set_cons_succ]); (try go_wp2_with fail); refine hK.out _ _ trivial fun _ => ?_; clear hK K; (try simp only [Act.put, List.setIfInBounds_toArray, List.set_cons_zero, List.set_cons_succ])
                    clear cx3
                    refine wpAnyH_ready (rs := [9]) (by kernel_rfl) (by simp) ?_; refine AllReadyH.cons rfl (fun K hK => ?_) AllReadyH.nil; go_simp; (try simp only [Act.put, List.setIfInBounds_toArray, List.set_cons_zero, List.set_cons_succ]); (try go_wp2_with (go_at_call 29; refine (among_any g (b + 90 * k + 30 * j + 2) _ 3 3 [0, 0, 5] 0 5 _ N2.out.cur (by decide) (by omega) (by omega) (by omega) (Rd.own m2.out) (Off.ne (by omega))).mono ?_; rintro e w4 ⟨v, rfl, ⟨u, rfl, u1, u2⟩, C4, G4⟩)); refine hK.out _ _ trivial fun _ => ?_; clear hK K; (try simp only [Act.put, List.setIfInBounds_toArray, List.set_cons_zero, List.set_cons_succ])
                    have N4 := Lib.hid (N2.out.draw C4 G4)
                    have l4 := Lib.hid (l2.out.kept G4 (Or.inr (by simp [Value.ownBlock]; omega)))
                    clear C4 G4
                    refine wpAnyH_ready (rs := [10]) (by kernel_rfl) (by simp) ?_; refine AllReadyH.cons rfl (fun K hK => ?_) AllReadyH.nil; go_simp; (try simp only [Act.put, List.setIfInBounds_toArray, List.set_cons_zero, List.set_cons_succ]); (try go_wp2_with (go_at_call 47; refine (rate_any g (b + 90 * k + 30 * j + 2 + 2) (k : Int) x u _ N4.out.cur (by omega) (by omega) (by omega) (by omega)).mono ?_; rintro e w5 ⟨v, rfl, ⟨r, rfl, r1, r2, r3⟩, C5, G5⟩; have r4 : -100 ≤ r.Grams ∧ r.Grams ≤ 1000 := (by omega); clear r3)); refine hK.out _ _ trivial fun _ => ?_; clear hK K; (try simp only [Act.put, List.setIfInBounds_toArray, List.set_cons_zero, List.set_cons_succ])
                    have N5 := Lib.hid (N4.out.draw C5 G5)
                    clear C5 G5
                    have N6 := Lib.hid (N5.out.step ((Ext.refl (w5)).alloc (.cells #[.int .i64 r.Zone, .int .i64 r.Grams, .int .i64 r.From, .int .i64 r.Until, .int .i64 r.Cents] 26)))
                    refine wpAnyH_ready (rs := [11]) (by kernel_rfl) (by simp) ?_; refine AllReadyH.cons rfl (fun K hK => ?_) AllReadyH.nil; go_simp; (try simp only [Act.put, List.setIfInBounds_toArray, List.set_cons_zero, List.set_cons_succ]); (try go_wp2_with fail); refine hK.out _ _ trivial fun _ => ?_; clear hK K; (try simp only [Act.put, List.setIfInBounds_toArray, List.set_cons_zero, List.set_cons_succ])
                    have o6 := own_block (w5) 26 r.cs
                    (try simp only [World.size_alloc, World.size_drew] at o6)
                    have p6 := Lib.hid o6
                    clear o6
                    have zp6 : g < w5.heap.size := by have h9 := N5.out.cur.lt; (try simp only [World.size_alloc, World.size_drew] at h9); exact h9
                    refine wpAnyH_ready (rs := [12]) (by kernel_rfl) (by simp) ?_; refine AllReadyH.cons rfl (fun K hK => ?_) AllReadyH.nil; refine step_app_rate rfl (.tmp 18) (.tmp 29) rfl w.heap.size (.slice A n c) n cs rfl N6.out.row w5.heap.size r.cs rfl p6.out (by omega) N6.out.sz_le 30 rfl ?_; intro A9 c9 W9 op7 gp7; refine hK.out _ _ trivial fun _ => ?_; clear hK K; (try simp only [Act.put, List.setIfInBounds_toArray, List.set_cons_zero, List.set_cons_succ])
                    have NF := Lib.hid (N6.out.app op7 gp7)
                    clear op7 gp7
                    refine wpAnyH_take (i := 13) (v := ?_) rfl (by kernel_rfl) (by kernel_rfl) (by kernel_rfl) (fun _ _ _ h => h) (Or.inl ⟨by rfl, ?_⟩) trivial ?_; rotate_left 1; (focus (intro w hSw; go_simp; (try with_reducible rfl))); (try simp only [Act.put, List.setIfInBounds_toArray, List.set_cons_zero, List.set_cons_succ])
                    refine wpAnyH_done (by kernel_rfl) ?_ _
                  rotate_left 1
                  focus
                    go_simp; (try simp only [Act.put, List.setIfInBounds_toArray, List.set_cons_zero, List.set_cons_succ]); (try go_wp2_with (go_at_call 29; refine (among_any g (b + 90 * k + 30 * j + 2) _ 3 3 [0, 0, 5] 0 5 _ N2.out.cur (by decide) (by omega) (by omega) (by omega) (Rd.own m2.out) (Off.ne (by omega))).mono ?_; rintro e w3 ⟨v, rfl, ⟨u, rfl, u1, u2⟩, C3, G3⟩)); refine hK.out _ _ trivial fun _ => ?_; clear hK K; (try simp only [Act.put, List.setIfInBounds_toArray, List.set_cons_zero, List.set_cons_succ])
                    have N3 := Lib.hid (N2.out.draw C3 G3)
                    have l3 := Lib.hid (l2.out.kept G3 (Or.inr (by simp [Value.ownBlock]; omega)))
                    clear C3 G3
                    have cx4 := own_at l3.out (j := j) (ints_get hx)
                    refine wpAnyH_ready (rs := [6]) (by kernel_rfl) (by simp) ?_; refine AllReadyH.cons rfl (fun K hK => ?_) AllReadyH.nil; go_simp; (try simp only [Act.put, List.setIfInBounds_toArray, List.set_cons_zero, List.set_cons_succ]); (try go_wp2_with fail); refine hK.out _ _ trivial fun _ => ?_; clear hK K; (try simp only [Act.put, List.setIfInBounds_toArray, List.set_cons_zero, List.set_cons_succ])
                    clear cx4
                    refine wpAnyH_ready (rs := [10]) (by kernel_rfl) (by simp) ?_; refine AllReadyH.cons rfl (fun K hK => ?_) AllReadyH.nil; go_simp; (try simp only [Act.put, List.setIfInBounds_toArray, List.set_cons_zero, List.set_cons_succ]); (try go_wp2_with (go_at_call 47; refine (rate_any g (b + 90 * k + 30 * j + 2 + 2) (k : Int) x u _ N3.out.cur (by omega) (by omega) (by omega) (by omega)).mono ?_; rintro e w5 ⟨v, rfl, ⟨r, rfl, r1, r2, r3⟩, C5, G5⟩; have r4 : -100 ≤ r.Grams ∧ r.Grams ≤ 1000 := (by omega); clear r3)); refine hK.out _ _ trivial fun _ => ?_; clear hK K; (try simp only [Act.put, List.setIfInBounds_toArray, List.set_cons_zero, List.set_cons_succ])
                    have N5 := Lib.hid (N3.out.draw C5 G5)
                    clear C5 G5
                    have N6 := Lib.hid (N5.out.step ((Ext.refl (w5)).alloc (.cells #[.int .i64 r.Zone, .int .i64 r.Grams, .int .i64 r.From, .int .i64 r.Until, .int .i64 r.Cents] 26)))
                    refine wpAnyH_ready (rs := [11]) (by kernel_rfl) (by simp) ?_; refine AllReadyH.cons rfl (fun K hK => ?_) AllReadyH.nil; go_simp; (try simp only [Act.put, List.setIfInBounds_toArray, List.set_cons_zero, List.set_cons_succ]); (try go_wp2_with fail); refine hK.out _ _ trivial fun _ => ?_; clear hK K; (try simp only [Act.put, List.setIfInBounds_toArray, List.set_cons_zero, List.set_cons_succ])
                    have o6 := own_block (w5) 26 r.cs
                    (try simp only [World.size_alloc, World.size_drew] at o6)
                    have p6 := Lib.hid o6
                    clear o6
                    have zp6 : g < w5.heap.size := by have h9 := N5.out.cur.lt; (try simp only [World.size_alloc, World.size_drew] at h9); exact h9
                    refine wpAnyH_ready (rs := [12]) (by kernel_rfl) (by simp) ?_; refine AllReadyH.cons rfl (fun K hK => ?_) AllReadyH.nil; refine step_app_rate rfl (.tmp 18) (.tmp 29) rfl w.heap.size (.slice A n c) n cs rfl N6.out.row w5.heap.size r.cs rfl p6.out (by omega) N6.out.sz_le 30 rfl ?_; intro A9 c9 W9 op7 gp7; refine hK.out _ _ trivial fun _ => ?_; clear hK K; (try simp only [Act.put, List.setIfInBounds_toArray, List.set_cons_zero, List.set_cons_succ])
                    have NF := Lib.hid (N6.out.app op7 gp7)
                    clear op7 gp7
                    refine wpAnyH_take (i := 13) (v := ?_) rfl (by kernel_rfl) (by kernel_rfl) (by kernel_rfl) (fun _ _ _ h => h) (Or.inl ⟨by rfl, ?_⟩) trivial ?_; rotate_left 1; (focus (intro w hSw; go_simp; (try with_reducible rfl))); (try simp only [Act.put, List.setIfInBounds_toArray, List.set_cons_zero, List.set_cons_succ])
                    refine wpAnyH_done (by kernel_rfl) ?_ _
                  rotate_left 1
                rotate_left 2
                focus
                  go_simp; (try simp only [Act.put, List.setIfInBounds_toArray, List.set_cons_zero, List.set_cons_succ]); (try go_wp2_with (go_at_call 29; refine (among_any g (b + 90 * k + 30 * j + 2) _ 3 3 [0, 0, 5] 0 5 _ N1.out.cur (by decide) (by omega) (by omega) (by omega) (Rd.own m1.out) (Off.ne (by omega))).mono ?_; rintro e w2 ⟨v, rfl, ⟨u, rfl, u1, u2⟩, C2, G2⟩)); refine hK.out _ _ trivial fun _ => ?_; clear hK K; (try simp only [Act.put, List.setIfInBounds_toArray, List.set_cons_zero, List.set_cons_succ])
                  have N2 := Lib.hid (N1.out.draw C2 G2)
                  clear C2 G2
                  have N3 := Lib.hid (N2.out.step ((Ext.refl (w2)).alloc (.cells #[.int .i64 20, .int .i64 50, .int .i64 100] 3)))
                  refine wpAnyH_ready (rs := [3]) (by kernel_rfl) (by simp) ?_; refine AllReadyH.cons rfl (fun K hK => ?_) AllReadyH.nil; go_simp; (try simp only [Act.put, List.setIfInBounds_toArray, List.set_cons_zero, List.set_cons_succ]); (try go_wp2_with fail); refine hK.out _ _ trivial fun _ => ?_; clear hK K; (try simp only [Act.put, List.setIfInBounds_toArray, List.set_cons_zero, List.set_cons_succ])
                  have o3 := own_list (w2) 3 [20, 50, 100]
                  (try simp only [World.size_alloc, World.size_drew] at o3)
                  have l3 := Lib.hid o3
                  clear o3
                  have zl3 : g < w2.heap.size := by have h9 := N2.out.cur.lt; (try simp only [World.size_alloc, World.size_drew] at h9); exact h9
                  refine wpAnyH_take (i := 5) (v := ?_) rfl (by kernel_rfl) (by kernel_rfl) (by kernel_rfl) (fun _ _ _ h => h) (Or.inl ⟨by rfl, ?_⟩) trivial ?_; rotate_left 1; (focus (intro w hSw; go_simp; (try with_reducible rfl))); (try simp only [Act.put, List.setIfInBounds_toArray, List.set_cons_zero, List.set_cons_succ])
                  have cx4 := own_at l3.out (j := j) (ints_get hx)
                  refine wpAnyH_ready (rs := [6]) (by kernel_rfl) (by simp) ?_; refine AllReadyH.cons rfl (fun K hK => ?_) AllReadyH.nil; go_simp; (try simp only [Act.put, List.setIfInBounds_toArray, List.set_cons_zero, List.set_cons_succ]); (try go_wp2_with fail); refine hK.out _ _ trivial fun _ => ?_; clear hK K; (try simp only [Act.put, List.setIfInBounds_toArray, List.set_cons_zero, List.set_cons_succ])
                  clear cx4
                  refine wpAnyH_ready (rs := [10]) (by kernel_rfl) (by simp) ?_; refine AllReadyH.cons rfl (fun K hK => ?_) AllReadyH.nil; go_simp; (try simp only [Act.put, List.setIfInBounds_toArray, List.set_cons_zero, List.set_cons_succ]); (try go_wp2_with (go_at_call 47; refine (rate_any g (b + 90 * k + 30 * j + 2 + 2) (k : Int) x u _ N3.out.cur (by omega) (by omega) (by omega) (by omega)).mono ?_; rintro e w5 ⟨v, rfl, ⟨r, rfl, r1, r2, r3⟩, C5, G5⟩; have r4 : -100 ≤ r.Grams ∧ r.Grams ≤ 1000 := (by omega); clear r3)); refine hK.out _ _ trivial fun _ => ?_; clear hK K; (try simp only [Act.put, List.setIfInBounds_toArray, List.set_cons_zero, List.set_cons_succ])
                  have N5 := Lib.hid (N3.out.draw C5 G5)
                  clear C5 G5
                  have N6 := Lib.hid (N5.out.step ((Ext.refl (w5)).alloc (.cells #[.int .i64 r.Zone, .int .i64 r.Grams, .int .i64 r.From, .int .i64 r.Until, .int .i64 r.Cents] 26)))
                  refine wpAnyH_ready (rs := [11]) (by kernel_rfl) (by simp) ?_; refine AllReadyH.cons rfl (fun K hK => ?_) AllReadyH.nil; go_simp; (try simp only [Act.put, List.setIfInBounds_toArray, List.set_cons_zero, List.set_cons_succ]); (try go_wp2_with fail); refine hK.out _ _ trivial fun _ => ?_; clear hK K; (try simp only [Act.put, List.setIfInBounds_toArray, List.set_cons_zero, List.set_cons_succ])
                  have o6 := own_block (w5) 26 r.cs
                  (try simp only [World.size_alloc, World.size_drew] at o6)
                  have p6 := Lib.hid o6
                  clear o6
                  have zp6 : g < w5.heap.size := by have h9 := N5.out.cur.lt; (try simp only [World.size_alloc, World.size_drew] at h9); exact h9
                  refine wpAnyH_ready (rs := [12]) (by kernel_rfl) (by simp) ?_; refine AllReadyH.cons rfl (fun K hK => ?_) AllReadyH.nil; refine step_app_rate rfl (.tmp 18) (.tmp 29) rfl w.heap.size (.slice A n c) n cs rfl N6.out.row w5.heap.size r.cs rfl p6.out (by omega) N6.out.sz_le 30 rfl ?_; intro A9 c9 W9 op7 gp7; refine hK.out _ _ trivial fun _ => ?_; clear hK K; (try simp only [Act.put, List.setIfInBounds_toArray, List.set_cons_zero, List.set_cons_succ])
                  have NF := Lib.hid (N6.out.app op7 gp7)
                  clear op7 gp7
                  refine wpAnyH_take (i := 13) (v := ?_) rfl (by kernel_rfl) (by kernel_rfl) (by kernel_rfl) (fun _ _ _ h => h) (Or.inl ⟨by rfl, ?_⟩) trivial ?_; rotate_left 1; (focus (intro w hSw; go_simp; (try with_reducible rfl))); (try simp only [Act.put, List.setIfInBounds_toArray, List.set_cons_zero, List.set_cons_succ])
                  refine wpAnyH_done (by kernel_rfl) ?_ _
                rotate_left 1
              rotate_left 3
              all_goals
                (try simp only [List.getElem_toArray, List.getElem_cons_succ, List.getElem_cons_zero, List.setIfInBounds_toArray, List.set_cons_succ, List.set_cons_zero])
                go_wp2
                go_meet
                exact ⟨A9, c9, n + 1, r, rfl, rfl, NF.out, r1, by omega, by omega, by omega⟩
            case rest =>
              obtain ⟨A9, c9, m, r, rfl, hm, hD, r1, r2, r3, r4⟩ := hcut
              rw [← hm] at hD
              have HM := Lib.hid hm
              have hm2 : m ≤ 6 * k + 2 * j + 1 := by omega
              have hm1 : 0 < m := by omega
              have hcl : cs.length = (m - 1) * 5 := by have := hD.row.1; rw [List.length_append, Rate.len] at this; omega
              obtain ⟨q, cap, hv, hbq, hql⟩ := hD.row.form hm1
              have hA9 : A9 = some ⟨q, 0, none⟩ := by injection hv
              clear hv hm N1
              subst hA9
              have cellr : ∀ (t : Nat) (u : Value), r.cs[t]? = some u → wc.cell? ⟨q, (m - 1) * 5 + t, none⟩ = some u := fun t u hu => own_at hD.row (by rw [List.getElem?_append_right (by omega), hcl, Nat.add_sub_cancel_left]; exact hu)
              have c0 := cellr 0 _ rfl
              have c1 := cellr 1 _ rfl
              have c2 := cellr 2 _ rfl
              have c3 := cellr 3 _ rfl
              have c4 := cellr 4 _ rfl
              simp only [Nat.add_zero] at c0
              have ND := Lib.hid hD
              have hz1 : (0 : Int) ≤ (m : Int) - 1 := by omega
              have hz2 : (m : Int) - 1 < (m : Int) := by omega
              have hgc : g < wc.heap.size := hD.cur.lt
              clear hD hcl cellr
              go_wp2_with fail
              have NB := Lib.hid (ND.out.step ((Ext.refl wc).alloc (.cells #[.int .i64 r.Zone, .int .i64 r.Grams, .int .i64 r.From, .int .i64 r.Until, .int .i64 r.Cents] 26)))
              refine (one_any g _ 2 _ NB.out.cur (by omega) (by omega)).mono ?_
              rintro e w2 ⟨v, rfl, ⟨ok2, rfl⟩, C2, G2⟩
              have N2 := Lib.hid (NB.out.draw C2 G2)
              have OB := Lib.hid ((own_block wc 26 r.cs).kept G2 (Or.inr (by simp [Value.ownBlock]; omega)))
              have x1 : w2.cell? ⟨wc.heap.size, 1, none⟩ = some (.int .i64 r.Grams) := own_at OB.out (j := 1) rfl
              have x3 : w2.cell? ⟨wc.heap.size, 3, none⟩ = some (.int .i64 r.Until) := own_at OB.out (j := 3) rfl
              have zb : wc.heap.size < w2.heap.size := World.block_lt_of_cell? w2 _ x1
              clear C2 G2 NB c0 c1 c2 c3 c4
              have HR2 := Lib.hid (show RSt2 w g (b + 90 * k + 30 * j + 2 + 2 + 8 + 2) (some ⟨q, 0, none⟩) m c9 w2 from by
                have h9 := N2.out
                rw [HM.out] at h9
                rw [HM.out]
                rw [HCS.out] at h9
                exact RSt2.push h9 HXS.out r1)
              cases ok2
              · go_wp2
                go_roundw
                case rel =>
                  obtain ⟨ys, h8, h7⟩ := HR2.out.st
                  exact ⟨j + 1, _, m, c9, by omega, by go_num, rfl, by omega, ⟨ys, h8.mono (by omega), h7⟩⟩
                case measure => simp [intOf]; omega
              · by_cases hu : r.Until < 30
                · have hd3 : decide (r.Until < 30) = true := by simpa using hu
                  obtain ⟨ys, h8, h7⟩ := HR2.out.st
                  have N3 := Lib.hid h8
                  have HYS := Lib.hid h7
                  clear h8 h7 HR2 N2
                  go_wp2
                  refine wp_region_held_drew (S := fun w' => w'.cell? ⟨wc.heap.size, 1, none⟩ = some (.int .i64 r.Grams) ∧ w'.cell? ⟨wc.heap.size, 3, none⟩ = some (.int .i64 r.Until)) (by kernel_rfl) ⟨(Ext.refl w2).drew.cell1 x1, (Ext.refl w2).drew.cell1 x3⟩ (fun hHeld => ?_)
                  refine wpAnyH_take (i := 0) (v := ?_) rfl (by kernel_rfl) (by kernel_rfl) (by kernel_rfl) (fun _ _ _ h => h) (Or.inl ⟨by rfl, ?_⟩) (by assumption) ?_; rotate_left 1; (focus (intro w hSw; (try dsimp only at hSw); obtain ⟨y1, y2⟩ := hSw; go_simp; (try with_reducible rfl))); (try simp only [Act.put, List.setIfInBounds_toArray, List.set_cons_zero, List.set_cons_succ])
                  refine wpAnyH_take (i := 1) (v := ?_) rfl (by kernel_rfl) (by kernel_rfl) (by kernel_rfl) (fun _ _ _ h => h) (Or.inl ⟨by rfl, ?_⟩) (by assumption) ?_; rotate_left 1; (focus (intro w hSw; (try dsimp only at hSw); obtain ⟨y1, y2⟩ := hSw; go_simp; (try with_reducible rfl))); (try simp only [Act.put, List.setIfInBounds_toArray, List.set_cons_zero, List.set_cons_succ])
                  refine wpAnyH_take (i := 2) (v := ?_) rfl (by kernel_rfl) (by kernel_rfl) (by kernel_rfl) (fun _ _ _ h => h) (Or.inl ⟨by rfl, ?_⟩) (by assumption) ?_; rotate_left 1; (focus (intro w hSw; (try dsimp only at hSw); obtain ⟨y1, y2⟩ := hSw; go_simp; (try with_reducible rfl))); (try simp only [Act.put, List.setIfInBounds_toArray, List.set_cons_zero, List.set_cons_succ])
                  refine wpAnyH_take (i := 3) (v := ?_) rfl (by kernel_rfl) (by kernel_rfl) (by kernel_rfl) (fun _ _ _ h => h) (Or.inl ⟨by rfl, ?_⟩) (by assumption) ?_; rotate_left 1; (focus (intro w hSw; (try dsimp only at hSw); obtain ⟨y1, y2⟩ := hSw; go_simp; (try with_reducible rfl))); (try simp only [Act.put, List.setIfInBounds_toArray, List.set_cons_zero, List.set_cons_succ])
                  refine wpAnyH_take (i := 4) (v := ?_) rfl (by kernel_rfl) (by kernel_rfl) (by kernel_rfl) (fun _ _ _ h => h) (Or.inl ⟨by rfl, ?_⟩) (by assumption) ?_; rotate_left 1; (focus (intro w hSw; (try dsimp only at hSw); obtain ⟨y1, y2⟩ := hSw; go_simp; (try with_reducible rfl))); (try simp only [Act.put, List.setIfInBounds_toArray, List.set_cons_zero, List.set_cons_succ])
                  refine wpAnyH_take (i := 5) (v := ?_) rfl (by kernel_rfl) (by kernel_rfl) (by kernel_rfl) (fun _ _ _ h => h) (Or.inl ⟨by rfl, ?_⟩) (by assumption) ?_; rotate_left 1; (focus (intro w hSw; (try dsimp only at hSw); obtain ⟨y1, y2⟩ := hSw; go_simp; (try with_reducible rfl))); (try simp only [Act.put, List.setIfInBounds_toArray, List.set_cons_zero, List.set_cons_succ])
                  refine wpAnyH_take (i := 6) (v := ?_) rfl (by kernel_rfl) (by kernel_rfl) (by kernel_rfl) (fun _ _ _ h => h) (Or.inl ⟨by rfl, ?_⟩) (by assumption) ?_; rotate_left 1; (focus (intro w hSw; (try dsimp only at hSw); obtain ⟨y1, y2⟩ := hSw; go_simp; (try with_reducible rfl))); (try simp only [Act.put, List.setIfInBounds_toArray, List.set_cons_zero, List.set_cons_succ])
                  refine wpAnyH_take (i := 7) (v := ?_) rfl (by kernel_rfl) (by kernel_rfl) (by kernel_rfl) (fun _ _ _ h => h) (Or.inl ⟨by rfl, ?_⟩) (by assumption) ?_; rotate_left 1; (focus (intro w hSw; (try dsimp only at hSw); obtain ⟨y1, y2⟩ := hSw; go_simp; (try with_reducible rfl))); (try simp only [Act.put, List.setIfInBounds_toArray, List.set_cons_zero, List.set_cons_succ])
                  have N4 := Lib.hid (N3.out.step ((Ext.refl w2).drew.alloc (.cells #[.int .i64 1, .int .i64 1, .int .i64 3] 3)))
                  refine wpAnyH_ready (rs := [8]) (by kernel_rfl) (by simp) ?_; refine AllReadyH.cons rfl (fun K hK => ?_) AllReadyH.nil; go_simp; (try simp only [Act.put, List.setIfInBounds_toArray, List.set_cons_zero, List.set_cons_succ]); (try go_wp2_with fail); refine hK.out _ _ ⟨((Ext.refl w2).drew.alloc (.cells #[.int .i64 1, .int .i64 1, .int .i64 3] 3)).cell1 x1, ((Ext.refl w2).drew.alloc (.cells #[.int .i64 1, .int .i64 1, .int .i64 3] 3)).cell1 x3⟩ fun hHeld => ?_; clear hK K; (try simp only [Act.put, List.setIfInBounds_toArray, List.set_cons_zero, List.set_cons_succ])
                  have N5 := Lib.hid (N3.out.step (Ext.refl w2).drew)
                  refine wpAnyH_ready (rs := [9]) (by kernel_rfl) (by simp) ?_; refine AllReadyH.cons rfl (fun K hK => ?_) AllReadyH.nil; go_simp; (try simp only [Act.put, List.setIfInBounds_toArray, List.set_cons_zero, List.set_cons_succ]); (try go_wp2_with (go_at_call 29; refine (among_at g _ _ [1, 1, 3] 1 3 _ _ N5.out.cur rfl (by decide) (by omega) (by decide) (by decide)).mono ?_; rintro e w5 ⟨v, rfl, ⟨u, rfl, u1, u2⟩, C5, G5⟩; have N6 := Lib.hid (N5.out.draw C5 G5); have b1 := cell_keep G5 (show wc.heap.size ≠ g by omega) ((Ext.refl w2).drew.cell1 x1); have b3 := cell_keep G5 (show wc.heap.size ≠ g by omega) ((Ext.refl w2).drew.cell1 x3); clear C5 G5)); refine hK.out _ _ ⟨b1, b3⟩ fun hHeld => ?_; clear hK K; (try simp only [Act.put, List.setIfInBounds_toArray, List.set_cons_zero, List.set_cons_succ])
                  have u3' : -20000 ≤ r.Until + u ∧ r.Until + u ≤ 4000 := by omega
                  have wu : IntKind.i64.wrap (r.Until + u) = r.Until + u := IntWalk.i64_in _ (by omega)
                  refine wpAnyH_take (i := 10) (v := ?_) rfl (by kernel_rfl) (by kernel_rfl) (by kernel_rfl) (fun _ _ _ h => h) (Or.inl ⟨by rfl, ?_⟩) (by assumption) ?_; rotate_left 1; (focus (intro w hSw; (try dsimp only at hSw); obtain ⟨y1, y2⟩ := hSw; go_simp; (try with_reducible rfl))); (try simp only [Act.put, List.setIfInBounds_toArray, List.set_cons_zero, List.set_cons_succ])
                  refine wpAnyH_ready (rs := [11]) (by kernel_rfl) (by simp) ?_; refine AllReadyH.cons rfl (fun K hK => ?_) AllReadyH.nil; go_simp; (try simp only [Act.put, List.setIfInBounds_toArray, List.set_cons_zero, List.set_cons_succ]); (try go_wp2_with (go_at_call 47; refine (rate_any g _ (k : Int) r.Grams (r.Until + u) _ N6.out.cur (by omega) (by omega) (by omega) (by omega)).mono ?_; rintro e w6 ⟨v, rfl, ⟨r', rfl, q1, q2, q3⟩, C6, G6⟩; have a1 := cell_keep G6 (show wc.heap.size ≠ g by omega) b1; have a3 := cell_keep G6 (show wc.heap.size ≠ g by omega) b3; clear q3)); refine hK.out _ _ ⟨a1, a3⟩ fun hHeld => ?_; clear hK K; (try simp only [Act.put, List.setIfInBounds_toArray, List.set_cons_zero, List.set_cons_succ])
                  have N7 := Lib.hid (N6.out.draw C6 G6)
                  have N8 := Lib.hid (N7.out.step ((Ext.refl w6).alloc (.cells #[.int .i64 r'.Zone, .int .i64 r'.Grams, .int .i64 r'.From, .int .i64 r'.Until, .int .i64 r'.Cents] 26)))
                  have z6 : wc.heap.size < w6.heap.size := World.block_lt_of_cell? w6 _ a1
                  refine wpAnyH_ready (rs := [12]) (by kernel_rfl) (by simp) ?_; refine AllReadyH.cons rfl (fun K hK => ?_) AllReadyH.nil; go_simp; (try simp only [Act.put, List.setIfInBounds_toArray, List.set_cons_zero, List.set_cons_succ]); (try go_wp2_with fail); refine hK.out _ _ ⟨((Ext.refl w6).alloc (.cells #[.int .i64 r'.Zone, .int .i64 r'.Grams, .int .i64 r'.From, .int .i64 r'.Until, .int .i64 r'.Cents] 26)).cell1 a1, ((Ext.refl w6).alloc (.cells #[.int .i64 r'.Zone, .int .i64 r'.Grams, .int .i64 r'.From, .int .i64 r'.Until, .int .i64 r'.Cents] 26)).cell1 a3⟩ fun hHeld => ?_; clear hK K; (try simp only [Act.put, List.setIfInBounds_toArray, List.set_cons_zero, List.set_cons_succ])
                  have p9 := own_block w6 26 r'.cs
                  refine wpAnyH_ready (rs := [13]) (by kernel_rfl) (by simp) ?_; refine AllReadyH.cons rfl (fun K hK => ?_) AllReadyH.nil; refine step_app_rate rfl (.tmp 44) (.tmp 56) rfl w.heap.size (.slice (some ⟨q, 0, none⟩) m c9) m (ys.flatMap Rate.cs) rfl N8.out.row w6.heap.size r'.cs rfl p9 (by omega) N8.out.sz_le 57 rfl ?_; intro A8 c8 W8 op gp; have N9 := Lib.hid (N8.out.app op gp); have d1 := grown_cell gp (Off.lt (show q < wc.heap.size from hql) |> fun (hh : Off (some ⟨q, 0, none⟩) wc.heap.size) => hh) (((Ext.refl w6).alloc (.cells #[.int .i64 r'.Zone, .int .i64 r'.Grams, .int .i64 r'.From, .int .i64 r'.Until, .int .i64 r'.Cents] 26)).cell1 a1); have d3 := grown_cell gp (Off.lt (show q < wc.heap.size from hql)) (((Ext.refl w6).alloc (.cells #[.int .i64 r'.Zone, .int .i64 r'.Grams, .int .i64 r'.From, .int .i64 r'.Until, .int .i64 r'.Cents] 26)).cell1 a3); clear op gp; refine hK.out _ _ ⟨d1, d3⟩ fun hHeld => ?_; clear hK K; (try simp only [Act.put, List.setIfInBounds_toArray, List.set_cons_zero, List.set_cons_succ])
                  refine wpAnyH_take (i := 14) (v := ?_) rfl (by kernel_rfl) (by kernel_rfl) (by kernel_rfl) (fun _ _ _ h => h) (Or.inl ⟨by rfl, ?_⟩) (by assumption) ?_; rotate_left 1; (focus (intro w hSw; (try dsimp only at hSw); obtain ⟨y1, y2⟩ := hSw; go_simp; (try with_reducible rfl))); (try simp only [Act.put, List.setIfInBounds_toArray, List.set_cons_zero, List.set_cons_succ])
                  refine wpAnyH_done (by kernel_rfl) ?_ _
                  (try simp only [List.getElem_toArray, List.getElem_cons_succ, List.getElem_cons_zero, List.setIfInBounds_toArray, List.set_cons_succ, List.set_cons_zero])
                  have HR3 := Lib.hid (RSt2.push N9.out HYS.out q1)
                  clear N3 N4 N5 N6 N7 N8 N9 p9 a1 a3 b1 b3 d1 d3
                  go_wp2
                  go_roundw
                  case rel =>
                    obtain ⟨ys, h8, h7⟩ := HR3.out.st
                    exact ⟨j + 1, _, m + 1, _, by omega, by go_num, rfl, by omega, ⟨ys, h8.mono (by omega), h7⟩⟩
                  case measure => simp [intOf]; omega
                · have hd3 : decide (r.Until < 30) = false := by simpa using hu
                  go_wp2
                  go_roundw
                  case rel =>
                    obtain ⟨ys, h8, h7⟩ := HR2.out.st
                    exact ⟨j + 1, _, m, c9, by omega, by go_num, rfl, by omega, ⟨ys, h8.mono (by omega), h7⟩⟩
                  case measure => simp [intOf]; omega
        · obtain rfl : j = 3 := by omega
          go_wp2
          go_roundw
          case rel => exact ⟨k + 1, A, n, c, by omega, by go_num, rfl, by omega, ⟨xs, N0.out.mono (by omega), HXS.out⟩⟩
          case measure => simp [intOf]; omega
    · obtain rfl : k = 3 := by omega
      obtain ⟨xs, hst2, hxs⟩ := hst.st
      have N0 := Lib.hid hst2
      have HXS := Lib.hid hxs
      clear hst hst2 hxs
      go_wp2_with fail
      refine (pick_any g _ 32 _ N0.out.cur (by omega) (by omega)).mono ?_
      rintro e w1 ⟨v, rfl, ⟨r, rfl, r0, r1⟩, C1, G1⟩
      have N1 := Lib.hid (N0.out.draw C1 G1)
      clear C1 G1 N0
      by_cases e0 : r = 0
      · subst e0
        go_wp2_with fail
        refine (among_at g _ _ [-1, 2, 9, 10] (-1) 10 _ _ N1.out.cur rfl (by decide) (by omega) (by decide) (by decide)).mono ?_
        rintro e w2 ⟨v, rfl, ⟨u, rfl, u1, u2⟩, C2, G2⟩
        have N2 := Lib.hid (N1.out.draw C2 G2)
        clear C2 G2 N1
        go_wp2_with fail
        refine (among_at g _ _ [0, 100, 2000, 2001] 0 2001 _ _ N2.out.cur rfl (by decide) (by omega) (by decide) (by decide)).mono ?_
        rintro e w3 ⟨v, rfl, ⟨x, rfl, x1, x2⟩, C3, G3⟩
        have N3 := Lib.hid (N2.out.draw C3 G3)
        clear C3 G3 N2
        go_wp2_with fail
        refine (rate_any g _ u x 3 _ N3.out.cur (by omega) (by omega) (by omega) (by omega)).mono ?_
        rintro e w4 ⟨v, rfl, ⟨r, rfl, q1, q2, q3⟩, C4, G4⟩
        have N4 := Lib.hid ((N3.out.draw C4 G4).step ((Ext.refl w4).alloc (.cells #[.int .i64 r.Zone, .int .i64 r.Grams, .int .i64 r.From, .int .i64 r.Until, .int .i64 r.Cents] 26)))
        clear C4 G4 N3 q3
        go_wp2_with (at_builtin; refine app_rate rfl (.tmp 62) (.tmp 71) rfl w.heap.size n c A (xs.flatMap Rate.cs) r w4.heap.size w4.heap.size rfl rfl N4.out.row (own_block w4 26 r.cs) (by omega) N4.out.sz_le ?_; intro A5 c5 w5 op gp)
        have N5 := Lib.hid (N4.out.app op gp)
        go_ret
        have hp := RSt2.push N5.out HXS.out q1
        obtain ⟨ys, h8, h7⟩ := hp.st
        exact ⟨_, rfl, ⟨A5, n + 1, c5, rfl, by omega, ⟨ys, h8.mono (by omega), h7⟩⟩, N5.out.cur.mono (by omega), N5.out.grown⟩
      · have d0 : (r == 0) = false := by simpa using e0
        have d0' : decide (r = 0) = false := by simpa using e0
        by_cases e1 : r = 1
        · subst e1
          go_wp2_with fail
          go_loopw [3] (fun o wr => ∃ (A : Option Addr) (n c : Nat), o = .slice A n c ∧ n ≤ 18 ∧ RSt2 w g (b + 280 + 2 * n) A n c wr) (fun o _ => 40 - slen o)
          case atStart => exact ⟨A, n, c, rfl, by omega, ⟨xs, N1.out.mono (by omega), HXS.out⟩⟩
          case round =>
            obtain ⟨A, n, c, rfl, hn, hst⟩ := hrel
            obtain ⟨xs, hst2, hxs⟩ := hst.st
            have N0 := Lib.hid hst2
            have HXS := Lib.hid hxs
            clear hst hst2 hxs N1
            go_wp2_with fail
            refine (pick_any g _ 2 _ N0.out.cur (by omega) (by omega)).mono ?_
            rintro e w2 ⟨v, rfl, ⟨t, rfl, t0, t1⟩, C2, G2⟩
            have N2 := Lib.hid (N0.out.draw C2 G2)
            clear C2 G2 N0
            have ht : t ≤ 1 := by omega
            by_cases hlt2 : (n : Int) < 16 + t
            · have hd2 : decide ((n : Int) < 16 + t) = true := by simpa using hlt2
              have OBJ := (Ext.refl w2).alloc (.cells #[.int .i64 8, .int .i64 (10 + (n : Int)), .int .i64 0, .int .i64 7, .int .i64 4] 26)
              have N3 := Lib.hid (N2.out.step OBJ)
              clear OBJ
              go_wp2_with (at_builtin; refine app_rate rfl (.tmp 81) (.tmp 86) rfl w.heap.size n c A (xs.flatMap Rate.cs) ⟨8, 10 + (n : Int), 0, 7, 4⟩ w2.heap.size w2.heap.size rfl rfl N3.out.row (own_block w2 26 [.int .i64 8, .int .i64 (10 + (n : Int)), .int .i64 0, .int .i64 7, .int .i64 4]) (by omega) N3.out.sz_le ?_; intro A5 c5 w5 op gp)
              have N5 := Lib.hid (N3.out.app op gp)
              clear op gp
              go_roundw
              case rel =>
                obtain ⟨ys, h8, h7⟩ := (RSt2.push N5.out HXS.out ⟨smI 8 (by omega) (by omega), smI (10 + (n : Int)) (by omega) (by omega), smI 0 (by omega) (by omega), smI 7 (by omega) (by omega), smI 4 (by omega) (by omega)⟩).st
                exact ⟨A5, n + 1, c5, rfl, by omega, ⟨ys, h8.mono (by omega), h7⟩⟩
              case measure => simp [slen]; omega
            · have hd2 : decide ((n : Int) < 16 + t) = false := by simpa using hlt2
              go_wp2
              go_ret
              exact ⟨_, rfl, ⟨A, n, c, rfl, by omega, ⟨xs, N2.out.mono (by omega), HXS.out⟩⟩, N2.out.cur.mono (by omega), N2.out.grown⟩
        · have d1 : (r == 1) = false := by simpa using e1
          have d1' : decide (r = 1) = false := by simpa using e1
          go_wp2
          go_ret
          exact ⟨_, rfl, ⟨A, n, c, rfl, by omega, ⟨xs, N1.out.mono (by omega), HXS.out⟩⟩, N1.out.cur.mono (by omega), N1.out.grown⟩
end Go.Proofs.YtkganlojknhajaaDoor
