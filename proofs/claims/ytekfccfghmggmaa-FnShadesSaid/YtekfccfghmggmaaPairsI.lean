/- OverlapPairs: both entries. -/
import Derived.Test.YtekfccfghmggmaaPairs
import Derived.Deep.RegionHeld3
import Derived.BigRegion
namespace Go.Proofs.Ytekfccfghmggmaa
open Go.RowKit
set_option linter.unusedVariables false
set_option linter.unusedSimpArgs false
attribute [local go_sem] ExtOf.cell

theorem one_slice (p : Nat) : ∀ u ∈ [Value.slice (some ⟨p, 0, none⟩) 2 2], u.oneCell' = true := fun u hu => by
  simp only [List.mem_singleton] at hu; subst hu; rfl
theorem own_pair (w : World) (a b : ByteArray) : (w.alloc (.cells #[.string a, .string b] 9)).ownsRow w.heap.size 9 1 (.slice (some ⟨w.heap.size, 0, none⟩) 2 2) 2 (strs [a, b]) :=
  ⟨by simp [strs], .inr ⟨w.heap.size, 2, #[.string a, .string b], rfl, Nat.le_refl _, heap_alloc_new w _, Nat.le_refl _, by unfold maxLen; omega, by simp, by simp [strs]⟩⟩
theorem one_at (w : World) (a b : ByteArray) (i : Nat) (u : Value) (h : ([.slice (some ⟨w.heap.size, 0, none⟩) 2 2] : List Value)[i]? = some u) : ((w.alloc (.cells #[.string a, .string b] 9)).alloc (.cells #[.slice (some ⟨w.heap.size, 0, none⟩) 2 2] 40)).cell? ⟨w.heap.size + 1, i, none⟩ = some u := by
  obtain rfl : i = 0 := by have := (List.getElem?_eq_some_iff.1 h).1; simpa using this
  have h2 := own_block (w.alloc (.cells #[.string a, .string b] 9)) 40 [.slice (some ⟨w.heap.size, 0, none⟩) 2 2]
  simp only [World.size_alloc] at h2
  exact own_at h2 h
theorem names_good {xs : List Shade} (h : shadesOk xs = true) {k : Nat} {x : Shade} (hx : xs[k]? = some x) : shOk x.Name x.Hue x.Width x.Dark x.Light = true := shadesOk_good h x (List.mem_of_getElem? hx)
theorem prs_step {w w' : World} {base : Nat} {v v' : Value} {zs : List Pr} {W0 : World} {a b : ByteArray} {n : Nat} (h : Prs W0 base v zs) (hn : zs.length = n) (hb : base ≤ W0.heap.size)
    (hw : w = (W0.alloc (.cells #[.string a, .string b] 9)).alloc (.cells #[.slice (some ⟨W0.heap.size, 0, none⟩) 2 2] 40))
    (hr : w'.ownsRow base 40 1 v' (n + 1) (zs.map prV ++ [.slice (some ⟨W0.heap.size, 0, none⟩) 2 2])) (hg : w.grownBy w' v.ownBlock) : Prs w' base v' (zs ++ [(W0.heap.size, a, b)]) := by
  subst hn
  subst hw
  refine Prs.push (w := (W0.alloc (.cells #[.string a, .string b] 9)).alloc (.cells #[.slice (some ⟨W0.heap.size, 0, none⟩) 2 2] 40)) (h.ext (((Ext.refl W0).alloc _).alloc _)) ?_ (fun z hz => (h.at_lt hz).2) hg hr
  exact ((Ext.refl _).alloc _).own (own_low' (own_pair W0 a b) hb)
theorem app_prs {ops : Array Oper} {rest : List Oper} {o : Oper} {a : Act} {W0 : World} {Q : Exit → Act → World → Prop} (hgd : o.guard = none) (s x : Operand)
    (ho : o.op = .call { callee := .builtin .append, args := #[s, x], argTypes := #[24, 24] })
    (base n c : Nat) (A : Option Addr) (zs : List Pr) (na nb : ByteArray) (hs : a.eval s = .slice A n c) (hx : a.eval x = .slice (some ⟨W0.heap.size + 1, 0, none⟩) 1 1)
    (h : Prs W0 base (.slice A n c) zs) (hl : zs.length = n) (hn : n ≤ 1000000) (hb : base ≤ W0.heap.size)
    (k : ∀ A' c' w', Prs w' base (.slice A' (n + 1) c') (zs ++ [(W0.heap.size, na, nb)]) → ((W0.alloc (.cells #[.string na, .string nb] 9)).alloc (.cells #[.slice (some ⟨W0.heap.size, 0, none⟩) 2 2] 40)).grownBy w' (Value.ownBlock (.slice A n c)) → wpList Try.prog ops Q rest (a.put o.dst (.slice A' (n + 1) c')) w') :
    wpList Try.prog ops Q (o :: rest) a ((W0.alloc (.cells #[.string na, .string nb] 9)).alloc (.cells #[.slice (some ⟨W0.heap.size, 0, none⟩) 2 2] 40)) := by
  obtain ⟨i0, hi, hz0, hz1, hz2⟩ := info_parts prsInfo
  have hrow := h.row
  rw [hl] at hrow
  refine wpList_append_own _ hgd s x 24 ho base 40 i0 (.slice none 0 0) 1 24 Try.underlying24 hi hz0 hz1 hz2 rfl (by decide) (.slice A n c) n (zs.map prV) hs (((Ext.refl _).alloc _).own (((Ext.refl _).alloc _).own hrow)) ⟨W0.heap.size + 1, 0, none⟩ 1 1 [.slice (some ⟨W0.heap.size, 0, none⟩) 2 2] hx rfl
    (fun i u hu => by rw [Addr.add_mid, Nat.zero_add]; exact one_at W0 na nb i u hu) (one_slice _) (by unfold maxLen; omega) (by omega) (by simp only [World.size_alloc]; omega) ?_
  intro v' w' h1 h2 h3
  obtain ⟨A', c', rfl⟩ := own_slice h1
  exact k A' c' w' (prs_step h hl hb rfl h1 h2) h2
theorem shT : (46 : Nat) ≠ 40 := by decide
set_option maxRecDepth 100000 in
set_option maxHeartbeats 4000000 in
theorem OverlapPairsS_any (A : Option Addr) (n c : Nat) (xs : List Shade) (w : World) (h : ShL w A n xs) :
    Calls Try.prog 6 #[.slice A n c] w (PrsPost (pairsR xs) (shadesOk xs) w) := by
  obtain ⟨i0, hi, hz0, hz1, hz2⟩ := info_parts prsInfo
  have hsm := h.small
  cases h1 : shadesOk xs
  · have hr : pairsR xs = [] := by simp [pairsR, h1]
    rw [hr]
    go_enter Try.func6, Try.ntmps6
    go_wp2_with (go_at_call 32; refine (l7Good_L (h.ext ((Ext.refl _).alloc _))).mono ?_; rintro e wa ⟨rfl, he1⟩; have hc1 := he1.cells)
    go_ret2
    exact ⟨some ⟨w.heap.size, 0, none⟩, 0, 0, [], rfl, rfl, rfl, (Prs.empty w).ext he1, ((Ext.refl _).alloc _).trans he1⟩
  · have hr : pairsR xs = pairsUp xs xs.length := by simp [pairsR, h1]
    have hn12 : n ≤ 12 := by have := shadesOk_len h1; have := h.len; omega
    rw [hr]
    have HL := Lib.hid h.len
    have HG := Lib.hid (fun (k : Nat) (x : Shade) (hx : xs[k]? = some x) => names_good h1 hx)
    clear hr
    go_enter Try.func6, Try.ntmps6
    go_wp2_with (go_at_call 32; refine (l7Good_L (h.ext ((Ext.refl _).alloc _))).mono ?_; rintro e wa ⟨rfl, he1⟩; have hc1 := he1.cells)
    clear hc1
    go_loopw [4, 5] (fun o i wr => ∃ (k : Nat) (A : Option Addr) (m c : Nat) (zs : List Pr), k ≤ n ∧ i = .int .i64 k ∧ o = .slice A m c ∧ m ≤ 12 * k ∧ Hid (zs.length = m) ∧ Hid (zs.map (·.2) = pairsUp xs k) ∧ Prs wr w.heap.size (.slice A m c) zs ∧ Ext w wr) (fun _ i _ => n - (intOf i).toNat)
    case atStart => exact ⟨0, some ⟨w.heap.size, 0, none⟩, 0, 0, [], Nat.zero_le _, rfl, rfl, Nat.zero_le _, rfl, rfl, (Prs.empty w).ext he1, ((Ext.refl _).alloc _).trans he1⟩
    case round =>
      obtain ⟨k, O, m, oc, zs, hk, rfl, rfl, hmk, hzl, hzs, ho, he⟩ := hrel
      have HO := Lib.hid ho
      clear ho
      by_cases hlt : k < n
      · obtain ⟨b, off, x, rfl, hb, hx, hxn, _⟩ := (h.ext he).at_ hlt
        go_wp2
        obtain ⟨wo, rfl⟩ : ∃ wo : World, wo = wr := ⟨_, rfl⟩
        go_loopw [4, 6] (fun o i wr => ∃ (j : Nat) (A : Option Addr) (m c : Nat) (zs : List Pr), k + 1 ≤ j ∧ j ≤ n ∧ i = .int .i64 j ∧ o = .slice A m c ∧ m ≤ 12 * k + (j - (k + 1)) ∧ Hid (zs.length = m) ∧ Hid (zs.map (·.2) = pairsUp xs k ++ rowOf x ((xs.drop (k + 1)).take (j - (k + 1)))) ∧ Prs wr w.heap.size (.slice A m c) zs ∧ Ext w wr) (fun _ i _ => n - (intOf i).toNat)
        case atStart => exact ⟨k + 1, O, m, oc, zs, Nat.le_refl _, hlt, by go_num, rfl, by omega, hzl, by rw [Nat.sub_self, List.take_zero]; simpa [rowOf] using hzs, HO.out, he⟩
        case round =>
          obtain ⟨j, O, m, oc, zs, hkj, hj, rfl, rfl, hmk, hzl, hzs, ho, he⟩ := hrel
          have HO := Lib.hid ho
          clear ho
          by_cases hlj : j < n
          · obtain ⟨b', off', x', eA', hb', hx', hxn', g0, g1, g2, g3, g4⟩ := (h.ext he).at_ hlt
            injection eA' with eA'; injection eA' with ea1 ea2; subst ea1; subst ea2
            obtain rfl : x = x' := by have := hx.out.symm.trans hx'.out; injection this
            obtain ⟨b2, off2, y, eA2, hb2, hy, hyn, q0, q1, q2, q3, q4⟩ := (h.ext he).at_ hlj
            injection eA2 with eA2; injection eA2 with ea1 ea2; subst ea1; subst ea2
            have hyd : (xs.drop (k + 1))[j - (k + 1)]? = some y := by rw [List.getElem?_drop, show k + 1 + (j - (k + 1)) = j by omega]; exact hy.out
            have hxg := HG.out k x hx.out
            have hyg := HG.out j y hy.out
            obtain ⟨b7, off7, x7, eA7, _, hx7, _, k0, _⟩ := h.at_ hlt
            injection eA7 with eA7; injection eA7 with ea1 ea2; subst ea1; subst ea2
            obtain rfl : x = x7 := by have := hx.out.symm.trans hx7.out; injection this
            obtain ⟨b8, off8, y8, eA8, _, hy8, _, k1, _⟩ := h.at_ hlj
            injection eA8 with eA8; injection eA8 with ea1 ea2; subst ea1; subst ea2
            obtain rfl : y = y8 := by have := hy.out.symm.trans hy8.out; injection this
            clear hx7 hy8
            have CM := Lib.hid (fun (wx : World) => l7Meet_any x.Name y.Name x.Hue x.Width x.Dark x.Light y.Hue y.Width y.Dark y.Light hxg hyg wx)
            have e1 : j + 1 - (k + 1) = j - (k + 1) + 1 := by omega
            have E1 := Lib.hid e1
            clear hxg hyg hx' hy e1
            cases hm : meetS x y
            · have hs := Lib.hid (row_no hyd hm)
              have hm2 : meet x.Hue x.Width x.Dark x.Light y.Hue y.Width y.Dark y.Light = false := hm
              rw [hm2] at CM
              clear hm hm2 hyd
              go_wp2
              (refine wp_region_ext_lit (by kernel_rfl) (by kernel_rfl) ?_; (repeat (go_big_quiet_step (((go_at_call 33; exact ext_call (CM.out _)))))); refine wpQuiet_nil ?_; rintro wq ⟨⟨_, heq⟩, rfl⟩; (try dsimp only))
              go_wp2
              go_roundw
              case rel => exact ⟨j + 1, O, m, oc, zs, by omega, by omega, by go_num, rfl, by omega, hzl, by rw [E1.out, hs.out]; exact hzs, HO.out.ext heq, he.trans heq⟩
              case measure => simp [intOf]; omega
            · have hs := Lib.hid (row_yes hyd hm)
              have hm2 : meet x.Hue x.Width x.Dark x.Light y.Hue y.Width y.Dark y.Light = true := hm
              rw [hm2] at CM
              clear hm hm2 hyd
              go_wp2
              (refine wp_region_ext_lit (by kernel_rfl) (by kernel_rfl) ?_; (repeat (go_big_quiet_step (((go_at_call 33; exact ext_call (CM.out _)))))); refine wpQuiet_nil ?_; rintro wq ⟨⟨_, heq⟩, rfl⟩; (try dsimp only))
              have PR := Lib.hid (HO.out.ext heq)
              have EQ := Lib.hid (he.trans heq)
              have c0 := k0
              have d0 := k1
              clear g0 g1 g2 g3 g4 q0 q1 q2 q3 q4 heq HO CM k0 k1
              have PD := Lib.hid (PR.out.ext (Ext.refl wq).drew)
              have RW := Lib.hid (show wq.drew.ownsRow w.heap.size 40 1 (.slice O m oc) m (zs.map prV) from by have h9 := PD.out.row; rw [hzl.out] at h9; exact h9)
              have hm999 : m ≤ 999 := by omega
              go_wp2
              refine wp_region_held_drew (S := fun w' => Ext w w') (by kernel_rfl) ?_ (fun hHeld => ?_); (focus exact EQ.out.drew)
              refine wpAnyH_take (i := 0) (v := ?_) rfl (by kernel_rfl) (by kernel_rfl) (by kernel_rfl) (fun _ _ _ h => h) (Or.inl ⟨by rfl, ?_⟩) (by assumption) ?_; rotate_left 1; (focus (intro w hSw; (try dsimp only at hSw); have yc := hSw.cell1 c0; have yd := hSw.cell1 d0; go_simp; (try with_reducible rfl))); (try simp only [Act.put, List.setIfInBounds_toArray, List.set_cons_zero, List.set_cons_succ])
              refine wpAnyH_take (i := 1) (v := ?_) rfl (by kernel_rfl) (by kernel_rfl) (by kernel_rfl) (fun _ _ _ h => h) (Or.inl ⟨by rfl, ?_⟩) (by assumption) ?_; rotate_left 1; (focus (intro w hSw; (try dsimp only at hSw); have yc := hSw.cell1 c0; have yd := hSw.cell1 d0; go_simp; (try with_reducible rfl))); (try simp only [Act.put, List.setIfInBounds_toArray, List.set_cons_zero, List.set_cons_succ])
              refine wpAnyH_take (i := 2) (v := ?_) rfl (by kernel_rfl) (by kernel_rfl) (by kernel_rfl) (fun _ _ _ h => h) (Or.inl ⟨by rfl, ?_⟩) (by assumption) ?_; rotate_left 1; (focus (intro w hSw; (try dsimp only at hSw); have yc := hSw.cell1 c0; have yd := hSw.cell1 d0; go_simp; (try with_reducible rfl))); (try simp only [Act.put, List.setIfInBounds_toArray, List.set_cons_zero, List.set_cons_succ])
              refine wpAnyH_take (i := 3) (v := ?_) rfl (by kernel_rfl) (by kernel_rfl) (by kernel_rfl) (fun _ _ _ h => h) (Or.inl ⟨by rfl, ?_⟩) (by assumption) ?_; rotate_left 1; (focus (intro w hSw; (try dsimp only at hSw); have yc := hSw.cell1 c0; have yd := hSw.cell1 d0; go_simp; (try with_reducible rfl))); (try simp only [Act.put, List.setIfInBounds_toArray, List.set_cons_zero, List.set_cons_succ])
              refine wpAnyH_take (i := 4) (v := ?_) rfl (by kernel_rfl) (by kernel_rfl) (by kernel_rfl) (fun _ _ _ h => h) (Or.inl ⟨by rfl, ?_⟩) (by assumption) ?_; rotate_left 1; (focus (intro w hSw; (try dsimp only at hSw); have yc := hSw.cell1 c0; have yd := hSw.cell1 d0; go_simp; (try with_reducible rfl))); (try simp only [Act.put, List.setIfInBounds_toArray, List.set_cons_zero, List.set_cons_succ])
              refine wpAnyH_take (i := 5) (v := ?_) rfl (by kernel_rfl) (by kernel_rfl) (by kernel_rfl) (fun _ _ _ h => h) (Or.inl ⟨by rfl, ?_⟩) (by assumption) ?_; rotate_left 1; (focus (intro w hSw; (try dsimp only at hSw); have yc := hSw.cell1 c0; have yd := hSw.cell1 d0; go_simp; (try with_reducible rfl))); (try simp only [Act.put, List.setIfInBounds_toArray, List.set_cons_zero, List.set_cons_succ])
              refine wpAnyH_take (i := 6) (v := ?_) rfl (by kernel_rfl) (by kernel_rfl) (by kernel_rfl) (fun _ _ _ h => h) (Or.inl ⟨by rfl, ?_⟩) (by assumption) ?_; rotate_left 1; (focus (intro w hSw; (try dsimp only at hSw); have yc := hSw.cell1 c0; have yd := hSw.cell1 d0; go_simp; (try with_reducible rfl))); (try simp only [Act.put, List.setIfInBounds_toArray, List.set_cons_zero, List.set_cons_succ])
              refine wpAnyH_take (i := 7) (v := ?_) rfl (by kernel_rfl) (by kernel_rfl) (by kernel_rfl) (fun _ _ _ h => h) (Or.inl ⟨by rfl, ?_⟩) (by assumption) ?_; rotate_left 1; (focus (intro w hSw; (try dsimp only at hSw); have yc := hSw.cell1 c0; have yd := hSw.cell1 d0; go_simp; (try with_reducible rfl))); (try simp only [Act.put, List.setIfInBounds_toArray, List.set_cons_zero, List.set_cons_succ])
              refine wpAnyH_take (i := 8) (v := ?_) rfl (by kernel_rfl) (by kernel_rfl) (by kernel_rfl) (fun _ _ _ h => h) (Or.inl ⟨by rfl, ?_⟩) (by assumption) ?_; rotate_left 1; (focus (intro w hSw; (try dsimp only at hSw); have yc := hSw.cell1 c0; have yd := hSw.cell1 d0; go_simp; (try with_reducible rfl))); (try simp only [Act.put, List.setIfInBounds_toArray, List.set_cons_zero, List.set_cons_succ])
              refine wpAnyH_take (i := 9) (v := ?_) rfl (by kernel_rfl) (by kernel_rfl) (by kernel_rfl) (fun _ _ _ h => h) (Or.inl ⟨by rfl, ?_⟩) (by assumption) ?_; rotate_left 1; (focus (intro w hSw; (try dsimp only at hSw); have yc := hSw.cell1 c0; have yd := hSw.cell1 d0; go_simp; (try with_reducible rfl))); (try simp only [Act.put, List.setIfInBounds_toArray, List.set_cons_zero, List.set_cons_succ])
              refine wpAnyH_take (i := 10) (v := ?_) rfl (by kernel_rfl) (by kernel_rfl) (by kernel_rfl) (fun _ _ _ h => h) (Or.inl ⟨by rfl, ?_⟩) (by assumption) ?_; rotate_left 1; (focus (intro w hSw; (try dsimp only at hSw); have yc := hSw.cell1 c0; have yd := hSw.cell1 d0; go_simp; (try with_reducible rfl))); (try simp only [Act.put, List.setIfInBounds_toArray, List.set_cons_zero, List.set_cons_succ])
              have X1 := Lib.hid (show Ext w (wq.drew.alloc (.cells #[.string x.Name, .string y.Name] 9)) from (EQ.out.drew).alloc _)
              refine wpAnyH_ready (rs := [11]) (by kernel_rfl) (by simp) ?_; refine AllReadyH.cons rfl (fun K hK => ?_) AllReadyH.nil; go_simp; (try simp only [Act.put, List.setIfInBounds_toArray, List.set_cons_zero, List.set_cons_succ]); (try go_wp2_with fail); refine hK.out _ _ ?_ (fun hHeld => ?_); (focus exact X1.out); clear hK K; (try simp only [Act.put, List.setIfInBounds_toArray, List.set_cons_zero, List.set_cons_succ])
              have X2 := Lib.hid (X1.out.alloc (.cells #[.slice (some ⟨wq.heap.size, 0, none⟩) 2 2] 40))
              refine wpAnyH_ready (rs := [12]) (by kernel_rfl) (by simp) ?_; refine AllReadyH.cons rfl (fun K hK => ?_) AllReadyH.nil; go_simp; (try simp only [Act.put, List.setIfInBounds_toArray, List.set_cons_zero, List.set_cons_succ]); (try go_wp2_with fail); refine hK.out _ _ ?_ (fun hHeld => ?_); (focus exact X2.out); clear hK K; (try simp only [Act.put, List.setIfInBounds_toArray, List.set_cons_zero, List.set_cons_succ])
              refine wpAnyH_ready (rs := [13]) (by kernel_rfl) (by simp) ?_; refine AllReadyH.cons rfl (fun K hK => ?_) AllReadyH.nil; refine step_app_own rfl (.tmp 35) (.tmp 47) 24 rfl w.heap.size 40 i0 (.slice none 0 0) 1 24 Try.underlying24 hi hz0 hz1 hz2 rfl (by decide) (.slice O m oc) m (zs.map prV) rfl (((Ext.refl _).alloc _).own (((Ext.refl _).alloc _).own RW.out)) ⟨wq.heap.size + 1, 0, none⟩ 1 1 [.slice (some ⟨wq.heap.size, 0, none⟩) 2 2] rfl rfl (fun i u hu => by rw [Addr.add_mid, Nat.zero_add]; exact one_at wq.drew _ _ i u hu) (one_slice _) (by unfold maxLen; omega) (by omega) X2.out.size 48 rfl (m + 1) rfl (zs.map prV ++ [.slice (some ⟨wq.heap.size, 0, none⟩) 2 2]) rfl ?_; intro A9 c9 w9 op gp; have X3 := Lib.hid (X2.out.grown gp (fun q hq => (RW.out.lt q hq).1)); have PN := Lib.hid (prs_step (a := x.Name) (b := y.Name) PD.out hzl.out (EQ.out.drew.size) rfl op gp); clear op gp; (try simp only [Act.put, List.setIfInBounds_toArray, List.set_cons_zero, List.set_cons_succ]); refine hK.out _ _ ?_ (fun hHeld => ?_); (focus exact X3.out); clear hK K; (try simp only [Act.put, List.setIfInBounds_toArray, List.set_cons_zero, List.set_cons_succ])
              refine wpAnyH_take (i := 14) (v := ?_) rfl (by kernel_rfl) (by kernel_rfl) (by kernel_rfl) (fun _ _ _ h => h) (Or.inl ⟨by rfl, ?_⟩) (by assumption) ?_; rotate_left 1; (focus (intro w hSw; (try dsimp only at hSw); have yc := hSw.cell1 c0; have yd := hSw.cell1 d0; go_simp; (try with_reducible rfl))); (try simp only [Act.put, List.setIfInBounds_toArray, List.set_cons_zero, List.set_cons_succ])
              refine wpAnyH_done (by kernel_rfl) ?_ _
              (try simp only [List.getElem_toArray, List.getElem_cons_succ, List.getElem_cons_zero, List.setIfInBounds_toArray, List.set_cons_succ, List.set_cons_zero])
              clear RW PD PR X1 X2
              go_wp2
              go_roundw
              case rel => exact ⟨j + 1, A9, m + 1, c9, _, by omega, by omega, by go_num, rfl, by omega, by rw [List.length_append, hzl.out]; rfl, by rw [List.map_append, hzs.out, E1.out, hs.out, List.append_assoc]; rfl, PN.out, X3.out⟩
              case measure => simp [intOf]; omega
          · obtain rfl : j = n := by omega
            have hnx := Lib.hid (pairs_next hx.out)
            have htk : ((xs.drop (k + 1)).take (j - (k + 1))) = xs.drop (k + 1) := List.take_of_length_le (by rw [List.length_drop, HL.out]; exact Nat.le_refl _)
            go_wp2
            go_roundw
            case rel => exact ⟨k + 1, O, m, oc, zs, by omega, by go_num, rfl, by omega, hzl, by rw [hnx.out, ← htk]; exact hzs, HO.out, he⟩
            case measure => simp [intOf]; omega
      · obtain rfl : k = n := by omega
        go_wp2
        go_ret2
        exact ⟨O, m, oc, zs, rfl, hzl, by rw [HL.out]; exact hzs, HO.out, he⟩
set_option maxRecDepth 100000 in
set_option maxHeartbeats 4000000 in
theorem OverlapPairsI_any (A : Option Addr) (n c : Nat) (xs : List Shade) (w : World) (h : ShL w A n xs) (hcap : n ≤ c) :
    Calls Try.prog 8 #[.slice A n c] w (PrsPost (pairsR xs) (shadesOk xs) w) := by
  have hsm := h.small
  cases h1 : shadesOk xs
  · have hr : pairsR xs = [] := by simp [pairsR, h1]
    rw [hr]
    go_enter Try.func8, Try.ntmps8
    go_wp2_with (go_at_call 35; refine (areShades_L h).mono ?_; rintro e wa ⟨rfl, he1⟩; have hc1 := he1.cells)
    go_ret2
    exact ⟨none, 0, 0, [], rfl, rfl, rfl, Prs.nil _ _, he1⟩
  · have hr : pairsR xs = pairsUp xs xs.length := by simp [pairsR, h1]
    have hn12 : n ≤ 12 := by have := shadesOk_len h1; have := h.len; omega
    rw [hr]
    have HL := Lib.hid h.len
    have HG := Lib.hid (fun (k : Nat) (x : Shade) (hx : xs[k]? = some x) => names_good h1 hx)
    clear hr
    go_enter Try.func8, Try.ntmps8
    go_wp2_with (go_at_call 35; refine (areShades_L h).mono ?_; rintro e wa ⟨rfl, he1⟩; have hc1 := he1.cells)
    clear hc1
    go_loopw [4, 14] (fun o i wr => ∃ (k : Nat) (A : Option Addr) (m c : Nat) (zs : List Pr), k ≤ n ∧ i = .int .i64 k ∧ o = .slice A m c ∧ m ≤ 12 * k ∧ Hid (zs.length = m) ∧ Hid (zs.map (·.2) = pairsUp xs k) ∧ Prs wr w.heap.size (.slice A m c) zs ∧ Ext w wr) (fun _ i _ => n - (intOf i).toNat)
    case atStart => exact ⟨0, none, 0, 0, [], Nat.zero_le _, rfl, rfl, Nat.zero_le _, rfl, rfl, Prs.nil _ _, he1⟩
    case round =>
      obtain ⟨k, O, m, oc, zs, hk, rfl, rfl, hmk, hzl, hzs, ho, he⟩ := hrel
      have HO := Lib.hid ho
      clear ho
      by_cases hlt : k < n
      · obtain ⟨b, off, x, rfl, hb, hx, hxn, g0, g1, g2, g3, g4⟩ := (h.ext he).at_ hlt
        have BX := Lib.hid (own_low' (own_block wr 46 x.cs) he.size)
        have OB := (Ext.refl wr).alloc (.cells #[.string x.Name, .int .i64 x.Hue, .int .i64 x.Width, .int .i64 x.Dark, .int .i64 x.Light] 46)
        have HO1 := Lib.hid (HO.out.ext OB)
        have E1 := Lib.hid (he.trans OB)
        have hkc : k + 1 ≤ c := by omega
        have hz1 : (0 : Int) ≤ (k : Int) + 1 := by omega
        have hz2 : (k : Int) + 1 ≤ (n : Int) := by omega
        have hz3 : k + 1 ≤ n := by omega
        obtain ⟨A2, hA2, hA3⟩ : ∃ A2 : Addr, (if c = k + 1 then some (⟨b, off, none⟩ : Addr) else some ⟨b, off + (k + 1) * 5, none⟩) = some A2 ∧ Hid (k + 1 < n → A2 = ⟨b, off + (k + 1) * 5, none⟩) := by
          by_cases hd : c = k + 1
          · exact ⟨⟨b, off, none⟩, by simp [hd], fun hh => by omega⟩
          · exact ⟨⟨b, off + (k + 1) * 5, none⟩, by simp [hd], fun _ => rfl⟩
        clear OB
        go_wp2
        clear g0 g1 g2 g3 g4 HO
        obtain ⟨wo, rfl⟩ : ∃ wo : World, wo = wr := ⟨_, rfl⟩
        go_loopw [4, 24] (fun o i wr => ∃ (j : Nat) (A : Option Addr) (m c : Nat) (zs : List Pr), j ≤ n - (k + 1) ∧ i = .int .i64 j ∧ o = .slice A m c ∧ m ≤ 12 * k + j ∧ Hid (zs.length = m) ∧ Hid (zs.map (·.2) = pairsUp xs k ++ rowOf x ((xs.drop (k + 1)).take j)) ∧ Prs wr w.heap.size (.slice A m c) zs ∧ wr.ownsRow w.heap.size 46 5 (.slice (some ⟨wo.heap.size, 0, none⟩) 1 1) 1 x.cs ∧ Ext w wr) (fun _ i _ => n - (intOf i).toNat)
        case atStart => exact ⟨0, O, m, oc, zs, Nat.zero_le _, rfl, rfl, by omega, hzl, by rw [List.take_zero]; simpa [rowOf] using hzs, HO1.out, BX.out, E1.out⟩
        case round =>
          obtain ⟨j, O, m, oc, zs, hj, rfl, rfl, hmk, hzl, hzs, ho, hbx, he⟩ := hrel
          have HO := Lib.hid ho
          have HB := Lib.hid hbx
          clear ho hbx HO1 BX E1
          by_cases hlj : j < n - (k + 1)
          · obtain ⟨b2, off2, y, eA2, hb2, hy, hyn, q0, q1, q2, q3, q4⟩ := (h.ext he).at_ (show k + 1 + j < n by omega)
            injection eA2 with eA2; injection eA2 with ea1 ea2; subst ea1; subst ea2
            obtain rfl := hA3.out (by omega)
            rw [show off + (k + 1 + j) * 5 = off + (k + 1) * 5 + j * 5 by omega] at q0 q1 q2 q3 q4
            have hyd : (xs.drop (k + 1))[j]? = some y := by rw [List.getElem?_drop]; exact hy.out
            have hxg := HG.out k x hx.out
            have hyg := HG.out _ y hy.out
            have CM := Lib.hid (fun (wx : World) => overlap_any x.Name y.Name x.Hue x.Width x.Dark x.Light y.Hue y.Width y.Dark y.Light hxg hyg wx)
            have x0 := own_at HB.out (j := 0) rfl
            have x1 := own_at HB.out (j := 1) rfl
            have x2 := own_at HB.out (j := 2) rfl
            have x3 := own_at HB.out (j := 3) rfl
            have x4 := own_at HB.out (j := 4) rfl
            have zx : wo.heap.size < wr.heap.size := World.block_lt_of_cell? wr _ x0
            have hs : if meetS x y then rowOf x ((xs.drop (k + 1)).take (j + 1)) = rowOf x ((xs.drop (k + 1)).take j) ++ [(x.Name, y.Name)] else rowOf x ((xs.drop (k + 1)).take (j + 1)) = rowOf x ((xs.drop (k + 1)).take j) := by
              split
              · rename_i hm; exact row_yes hyd hm
              · rename_i hm; exact row_no hyd (by simpa using hm)
            have HS := Lib.hid hs
            have EY := Lib.hid ((Ext.refl wr).alloc (.cells #[.string y.Name, .int .i64 y.Hue, .int .i64 y.Width, .int .i64 y.Dark, .int .i64 y.Light] 46))
            have BY := Lib.hid (own_block wr 46 y.cs)
            clear hxg hyg hy hyd hs
            go_wp2_with fail
            refine (CM.out _).mono ?_
            rintro e wb ⟨rfl, eb⟩
            have v0 : wb.cell? ⟨wo.heap.size, 0, none⟩ = some (.string x.Name) := eb.cell1 (EY.out.cell1 x0)
            have u0 : wb.cell? ⟨wr.heap.size, 0, none⟩ = some (.string y.Name) := own_at (eb.own BY.out) (j := 0) rfl
            have zv : wo.heap.size < wb.heap.size := World.block_lt_of_cell? wb _ v0
            have zu : wr.heap.size < wb.heap.size := World.block_lt_of_cell? wb _ u0
            have PB := Lib.hid (HO.out.ext (EY.out.trans eb))
            have HB2 := Lib.hid ((EY.out.trans eb).own HB.out)
            have EB := Lib.hid (he.trans (EY.out.trans eb))
            clear x0 x1 x2 x3 x4 q0 q1 q2 q3 q4 eb EY BY HO HB CM
            change Hid (if meet x.Hue x.Width x.Dark x.Light y.Hue y.Width y.Dark y.Light then _ else _) at HS
            cases hm : meet x.Hue x.Width x.Dark x.Light y.Hue y.Width y.Dark y.Light
            · rw [hm] at HS
              go_wp2
              go_roundw
              case rel => exact ⟨j + 1, O, m, oc, zs, by omega, by go_num, rfl, by omega, hzl, by rw [show rowOf x ((xs.drop (k + 1)).take (j + 1)) = _ from HS.out]; exact hzs, PB.out, HB2.out, EB.out⟩
              case measure => simp [intOf]; omega
            · rw [hm] at HS
              have hm999 : m ≤ 999 := by omega
              go_wp2_with (at_builtin; refine app_prs rfl (.tmp 31) (.tmp 37) rfl w.heap.size m oc O zs x.Name y.Name rfl rfl PB.out hzl.out (by omega) EB.out.size ?_; intro A9 c9 w9 pn gp)
              have X3 := Lib.hid ((((EB.out.alloc _).alloc _)).grown gp (fun q hq => (PB.out.row.lt q hq).1))
              have HB3 := Lib.hid ((((Ext.refl _).alloc _).own (((Ext.refl _).alloc _).own HB2.out)).kept gp (own_types HB2.out PB.out.row shT))
              have PN := Lib.hid pn
              clear pn gp
              go_roundw
              case rel => exact ⟨j + 1, A9, m + 1, c9, _, by omega, by go_num, rfl, by omega, by rw [List.length_append, hzl.out]; rfl, by rw [List.map_append, hzs.out, show rowOf x ((xs.drop (k + 1)).take (j + 1)) = _ from HS.out, List.append_assoc]; rfl, PN.out, HB3.out, X3.out⟩
              case measure => simp [intOf]; omega
          · obtain rfl : j = n - (k + 1) := by omega
            have hnx := Lib.hid (pairs_next hx.out)
            have htk : ((xs.drop (k + 1)).take (n - (k + 1))) = xs.drop (k + 1) := List.take_of_length_le (by rw [List.length_drop, HL.out]; exact Nat.le_refl _)
            go_wp2
            go_roundw
            case rel => exact ⟨k + 1, O, m, oc, zs, by omega, by go_num, rfl, by omega, hzl, by rw [hnx.out, ← htk]; exact hzs, HO.out, he⟩
            case measure => simp [intOf]; omega
      · obtain rfl : k = n := by omega
        go_wp2
        go_ret2
        exact ⟨O, m, oc, zs, rfl, hzl, by rw [HL.out]; exact hzs, HO.out, he⟩
end Go.Proofs.Ytekfccfghmggmaa
