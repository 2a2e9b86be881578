/- The draw of a list of shades (made by wip/drawshades.py). -/
import Derived.Test.YtekfccfghmggmaaDoorDrawShade
import Derived.Deep.RegionHeld3
import Derived.Deep.CutBlock
import Derived.BigRegion
namespace Go.Proofs.YtekfccfghmggmaaDoor
open Go.RowKit
set_option linter.unusedVariables false
set_option linter.unusedSimpArgs false
attribute [local go_sem] ExtOf.cell

theorem infoShade : (Tryd.prog.info? 33).map (fun i => (i.zero, i.size, i.bytes)) = some (some (.agg #[.string ByteArray.empty, .int .i64 0, .int .i64 0, .int .i64 0, .int .i64 0]), 5, 48) := by kernel_rfl
theorem own_le {w : World} {base T size n c : Nat} {A : Option Addr} {cs : List Value} (h : w.ownsRow base T size (.slice A n c) n cs) : n ≤ c := by
  rcases h.2 with ⟨h1, h2⟩ | ⟨g, cap, cur, h1, _, _, h4, _⟩
  · omega
  · injection h1 with _ _ e3; omega
theorem shade_one (x : Shade) : ∀ u ∈ x.cs, u.oneCell' = true := fun u hu => by
  simp only [Shade.cs, List.mem_cons, List.not_mem_nil, or_false] at hu
  rcases hu with rfl | rfl | rfl | rfl | rfl <;> rfl
theorem shades_one (xs : List Shade) : ∀ u ∈ xs.flatMap Shade.cs, u.oneCell' = true := fun u hu => by
  obtain ⟨x, _, hx⟩ := List.mem_flatMap.1 hu
  exact shade_one x u hx
theorem shades_len (xs : List Shade) : (xs.flatMap Shade.cs).length = xs.length * 5 := flat_length Shade.cs 5 Shade.len xs
theorem app_shade {ops : Array Oper} {rest : List Oper} {o : Oper} {a : Act} {w : World} {Q : Exit → Act → World → Prop} (hgd : o.guard = none) (s x : Operand)
    (ho : o.op = .call { callee := .builtin .append, args := #[s, x], argTypes := #[28, 28] })
    (base n c : Nat) (A : Option Addr) (xs : List Value) (r : Shade) (bv gp : Nat) (hs : a.eval s = .slice A n c) (hx : a.eval x = .slice (some ⟨gp, 0, none⟩) 1 1)
    (hown : w.ownsRow base 33 5 (.slice A n c) n xs) (hv : w.ownsRow bv 33 5 (.slice (some ⟨gp, 0, none⟩) 1 1) 1 r.cs) (hn : n ≤ 1000000) (hb : base ≤ w.heap.size)
    (h : ∀ A' c' w', w'.ownsRow base 33 5 (.slice A' (n + 1) c') (n + 1) (xs ++ r.cs) → w.grownBy w' (Value.ownBlock (.slice A n c)) → wpList Tryd.prog ops Q rest (a.put o.dst (.slice A' (n + 1) c')) w') : wpList Tryd.prog ops Q (o :: rest) a w := by
  obtain ⟨i0, hi, hz0, hz1, hz2⟩ := info_parts infoShade
  refine wpList_append_own w hgd s x 28 ho base 33 i0 (.agg #[.string ByteArray.empty, .int .i64 0, .int .i64 0, .int .i64 0, .int .i64 0]) 5 48 Tryd.underlying28 hi hz0 hz1 hz2 rfl (by decide) (.slice A n c) n xs hs hown ⟨gp, 0, none⟩ 1 1 r.cs hx rfl
    (fun j u hj => by rw [Addr.add_mid, Nat.zero_add]; exact own_at hv hj) (shade_one r) (by unfold maxLen; omega) (by omega) hb ?_
  intro v' w' h1 h2 h3
  obtain ⟨A', c', rfl⟩ := own_slice h1
  exact h A' c' w' h1 h2
/-- The list so far: n shades, all of them small, b choices taken. -/
structure SSt (w0 : World) (g b : Nat) (A : Option Addr) (n c : Nat) (w : World) : Prop where
  st : ∃ xs : List Shade, DSt w0 g b 33 5 A n c (xs.flatMap Shade.cs) w ∧ ∀ x ∈ xs, ShadeSm x
  at_ : ∃ q, A = some ⟨q, 0, none⟩
theorem SSt.mono {w0 w : World} {g b b' n c : Nat} {A : Option Addr} (h : SSt w0 g b A n c w) (hb : b ≤ b') : SSt w0 g b' A n c w :=
  ⟨(by obtain ⟨xs, h1, h2⟩ := h.st; exact ⟨xs, h1.mono hb, h2⟩), h.at_⟩
theorem SSt.push {w0 w : World} {g b : Nat} {A' : Option Addr} {n c' : Nat} {xs : List Shade} {r : Shade} (h : DSt w0 g b 33 5 A' (n + 1) c' (xs.flatMap Shade.cs ++ r.cs) w) (hx : ∀ x ∈ xs, ShadeSm x) (hr : ShadeSm r) : SSt w0 g b A' (n + 1) c' w := by
  refine ⟨⟨xs ++ [r], by simpa [List.flatMap_append] using h, fun x hm => ?_⟩, ?_⟩
  · rcases List.mem_append.1 hm with hm | hm
    · exact hx x hm
    · simp at hm; subst hm; exact hr
  · obtain ⟨q, cap, hv, _⟩ := h.row.form (by omega)
    injection hv with hv
    exact ⟨q, hv⟩
def slen : Value → Nat
  | .slice _ n _ => n
  | _ => 0
theorem own_strs (w : World) (T : TypeId) (l : List ByteArray) (h : l.length ≤ maxLen := by decide) : (w.alloc (.cells (strs l).toArray T)).ownsRow w.heap.size T 1 (.slice (some ⟨w.heap.size, 0, none⟩) l.length l.length) l.length (strs l) :=
  ⟨by simp [strs], .inr ⟨w.heap.size, l.length, (strs l).toArray, rfl, Nat.le_refl _, heap_alloc_new w _, Nat.le_refl _, h, by simp [strs], by rw [Nat.mul_one, List.take_of_length_le (by simp [strs])]⟩⟩
theorem ext_size (b : ByteArray) (i j : Nat) : (b.extract i j).size ≤ j - i := by
  rw [ByteArray.size_extract]; omega
theorem strT2 : (9 : Nat) ≠ 33 := by decide
def names6 : List ByteArray := [⟨#[98, 114, 105, 99, 107]⟩, ⟨#[108, 97, 107, 101]⟩, ⟨#[108, 105, 108, 97, 99]⟩, ⟨#[111, 114, 97, 110, 103, 101]⟩, ⟨#[114, 101, 100]⟩, ⟨#[114, 111, 115, 101]⟩]
theorem name_at {k : Nat} (h : k < 6) : ∃ s : ByteArray, names6[k]? = some s ∧ s.size ≤ 100 := by
  have hl : k < names6.length := h
  refine ⟨names6[k], List.getElem?_eq_getElem hl, ?_⟩
  have := List.getElem_mem hl
  have hall : ∀ s ∈ names6, s.size ≤ 100 := by decide
  exact hall _ this
theorem drop_cells {xs : List Shade} {k : Nat} {j : Nat} {u : Value} (hk : k ≤ xs.length) (h : ((xs.drop k).flatMap Shade.cs)[j]? = some u) : (xs.flatMap Shade.cs)[k * 5 + j]? = some u := by
  have e1 : xs.flatMap Shade.cs = (xs.take k).flatMap Shade.cs ++ (xs.drop k).flatMap Shade.cs := by rw [← List.flatMap_append, List.take_append_drop]
  rw [e1, List.getElem?_append_right (by rw [shades_len, List.length_take]; omega), shades_len, List.length_take, Nat.min_eq_left hk, Nat.add_sub_cancel_left]
  exact h
set_option maxRecDepth 100000 in
set_option maxHeartbeats 4000000 in
theorem shades7_any (g b : Nat) (w : World) (h : Cur w g b) (hb : b ≤ 100000) :
    Calls Tryd.prog 27 #[.pointer (some ⟨g, 0, none⟩)] w (CurPost g (b + 1000) w (fun v w' => ∃ (A : Option Addr) (n c : Nat), v = .slice A n c ∧ n ≤ 40 ∧ SSt w g (b + 1000) A n c w')) := by
  obtain ⟨i0, hi0, hz0v, hzz1, hzz2⟩ := info_parts infoShade
  have hgw := h.lt
  have o0 := own_empty w w.heap.size 33 5 (Nat.le_refl _)
  have S0 := Lib.hid (show DSt w g b 33 5 (some ⟨w.heap.size, 0, none⟩) 0 0 [] (w.alloc (.cells #[] 33)) from ⟨h.ext ((Ext.refl _).alloc _), o0, grown_of_ext ((Ext.refl _).alloc _), hgw⟩)
  have S1 := Lib.hid (S0.out.step ((Ext.refl (w.alloc (.cells #[] 33))).alloc (.cells (strs names6).toArray 9)))
  have nr := own_low' (own_strs (w.alloc (.cells #[] 33)) 9 names6) (show w.heap.size ≤ (w.alloc (.cells #[] 33)).heap.size by simp)
  simp only [World.size_alloc] at nr
  have NR := Lib.hid nr
  clear o0 S0 nr h
  go_enter Tryd.func27, Tryd.ntmps27
  go_wp2
  go_loopw [3, 5] (fun o i wr => ∃ (k : Nat) (A : Option Addr) (n c : Nat), k ≤ 6 ∧ i = .int .i64 k ∧ o = .slice A n c ∧ n ≤ k ∧ SSt w g (b + 20 * k) A n c wr ∧ wr.ownsRow w.heap.size 9 1 (.slice (some ⟨w.heap.size + 1, 0, none⟩) 6 6) 6 (strs names6)) (fun _ i _ => 6 - (intOf i).toNat)
  case atStart => exact ⟨0, _, 0, 0, Nat.zero_le _, rfl, rfl, Nat.le_refl _, ⟨⟨[], S1.out, fun x hx => by cases hx⟩, ⟨_, rfl⟩⟩, NR.out⟩
  case round =>
    obtain ⟨k, A, n, c, hk, rfl, rfl, hn, hst, hnr⟩ := hrel
    obtain ⟨⟨xs, hst2, hxs⟩, ⟨q, rfl⟩⟩ := hst
    have N0 := Lib.hid hst2
    have HXS := Lib.hid hxs
    have R0 := Lib.hid hnr
    clear hst2 hxs hnr NR S1
    by_cases hlt : k < 6
    · have hkd : decide ((k : Int) < 6) = true := by simp; omega
      go_wp2_with fail
      refine (one_any g _ 2 _ N0.out.cur (by omega) (by omega)).mono ?_
      rintro e w1 ⟨v, rfl, ⟨ok, rfl⟩, C1, G1⟩
      have N1 := Lib.hid (N0.out.draw C1 G1)
      have R1 := Lib.hid (R0.out.kept G1 (Or.inr (by simp [Value.ownBlock]; omega)))
      clear C1 G1 N0 R0
      cases ok
      · go_wp2
        go_roundw
        case rel => exact ⟨k + 1, _, n, c, by omega, by go_num, rfl, by omega, ⟨⟨xs, N1.out.mono (by omega), HXS.out⟩, ⟨q, rfl⟩⟩, R1.out⟩
        case measure => simp [intOf]; omega
      · obtain ⟨s, hs, hs2⟩ := name_at hlt
        have cx := own_at R1.out (j := k) (strs_get hs)
        have zx : w.heap.size + 1 < w1.heap.size := World.block_lt_of_cell? w1 _ cx
        have jz : (k : Int) < 6 := by omega
        go_wp2_with fail
        refine (shade7_any g _ s _ N1.out.cur (by omega) hs2).mono ?_
        rintro e w2 ⟨v, rfl, ⟨x, rfl, hx⟩, C2, G2⟩
        have HX := Lib.hid hx
        have R2 := Lib.hid (R1.out.kept G2 (Or.inr (by simp [Value.ownBlock]; omega)))
        have N2 := Lib.hid ((N1.out.draw C2 G2).step ((Ext.refl w2).alloc (.cells #[.string x.Name, .int .i64 x.Hue, .int .i64 x.Width, .int .i64 x.Dark, .int .i64 x.Light] 33)))
        have R3 := Lib.hid (((Ext.refl w2).alloc (.cells #[.string x.Name, .int .i64 x.Hue, .int .i64 x.Width, .int .i64 x.Dark, .int .i64 x.Light] 33)).own R2.out)
        clear C2 G2 N1 hx cx R1 R2 zx
        go_wp2_with (at_builtin; refine app_shade rfl (.tmp 17) (.tmp 24) rfl w.heap.size n c (some ⟨q, 0, none⟩) (xs.flatMap Shade.cs) x w2.heap.size w2.heap.size rfl rfl N2.out.row (own_block w2 33 x.cs) (by omega) N2.out.sz_le ?_; intro A5 c5 w5 op gp)
        have N5 := Lib.hid (N2.out.app op gp)
        have R5 := Lib.hid (R3.out.kept gp (own_types R3.out N2.out.row strT2))
        clear op gp
        go_roundw
        case rel => exact ⟨k + 1, A5, n + 1, c5, by omega, by go_num, rfl, by omega, (SSt.push N5.out HXS.out HX.out).mono (by omega), R5.out⟩
        case measure => simp [intOf]; omega
    · obtain rfl : k = 6 := by omega
      go_wp2_with fail
      refine (pick_any g _ 40 _ N0.out.cur (by omega) (by omega)).mono ?_
      rintro e w1 ⟨v, rfl, ⟨r, rfl, r0, r1⟩, C1, G1⟩
      have N1 := Lib.hid (N0.out.draw C1 G1)
      clear C1 G1 N0 R0
      by_cases e0 : r = 0
      · subst e0
        have o9 := own_empty w1 w.heap.size 33 5 N1.out.sz_le
        have E9 := (Ext.refl w1).alloc (.cells #[] 33)
        have N9 := Lib.hid (show DSt w g (b + 20 * 6 + 2) 33 5 (some ⟨w1.heap.size, 0, none⟩) 0 0 [] (w1.alloc (.cells #[] 33)) from ⟨N1.out.cur.ext E9, o9, grown_trans N1.out.grown (grown_of_ext E9), hgw⟩)
        clear o9 E9
        go_wp2_with fail
        go_loopw [3, 6] (fun o i wr => ∃ (k : Nat) (A : Option Addr) (n c : Nat), k ≤ 13 ∧ i = .int .i64 k ∧ o = .slice A n c ∧ n = k ∧ SSt w g (b + 200 + 2 * k) A n c wr) (fun _ i _ => 40 - (intOf i).toNat)
        case atStart => exact ⟨0, _, 0, 0, Nat.zero_le _, rfl, rfl, rfl, ⟨⟨[], N9.out.mono (by omega), fun x hx => by cases hx⟩, ⟨_, rfl⟩⟩⟩
        case round =>
          obtain ⟨k, A, n, c, hk, rfl, rfl, rfl, hst⟩ := hrel
          obtain ⟨⟨xs, hst2, hxs⟩, ⟨q, rfl⟩⟩ := hst
          have N0 := Lib.hid hst2
          have HXS := Lib.hid hxs
          clear hst2 hxs N1 N9
          go_wp2_with fail
          refine (pick_any g _ 2 _ N0.out.cur (by omega) (by omega)).mono ?_
          rintro e w2 ⟨v, rfl, ⟨t, rfl, t0, t1⟩, C2, G2⟩
          have N2 := Lib.hid (N0.out.draw C2 G2)
          clear C2 G2 N0
          have ht : t ≤ 1 := by omega
          by_cases hlt2 : (n : Int) < 12 + t
          · have hd2 : decide ((n : Int) < 12 + t) = true := by simpa using hlt2
            have hn12 : n ≤ 12 := by omega
            have jz1 : (n : Int) + 1 ≤ 13 := by omega
            have jz2 : n + 1 ≤ 13 := by omega
            have jz3 : (n : Int) ≤ (n : Int) + 1 := by omega
            have hnm : ((⟨#[97, 98, 99, 100, 101, 102, 103, 104, 105, 106, 107, 108, 109]⟩ : ByteArray).extract n (n + 1)).size ≤ 100 := by have := ext_size (⟨#[97, 98, 99, 100, 101, 102, 103, 104, 105, 106, 107, 108, 109]⟩ : ByteArray) n (n + 1); omega
            have OBJ := (Ext.refl w2).alloc (.cells #[.string ((⟨#[97, 98, 99, 100, 101, 102, 103, 104, 105, 106, 107, 108, 109]⟩ : ByteArray).extract n (n + 1)), .int .i64 (30 * ((n : Int) % 12)), .int .i64 10, .int .i64 0, .int .i64 60] 33)
            have N3 := Lib.hid (N2.out.step OBJ)
            clear OBJ
            go_wp2_with (at_builtin; refine app_shade rfl (.tmp 38) (.tmp 47) rfl w.heap.size n c (some ⟨q, 0, none⟩) (xs.flatMap Shade.cs) ⟨(⟨#[97, 98, 99, 100, 101, 102, 103, 104, 105, 106, 107, 108, 109]⟩ : ByteArray).extract n (n + 1), 30 * ((n : Int) % 12), 10, 0, 60⟩ w2.heap.size w2.heap.size rfl rfl N3.out.row (own_block w2 33 [.string ((⟨#[97, 98, 99, 100, 101, 102, 103, 104, 105, 106, 107, 108, 109]⟩ : ByteArray).extract n (n + 1)), .int .i64 (30 * ((n : Int) % 12)), .int .i64 10, .int .i64 0, .int .i64 60]) (by omega) N3.out.sz_le ?_; intro A5 c5 w5 op gp)
            have N5 := Lib.hid (N3.out.app op gp)
            clear op gp
            go_roundw
            case rel => exact ⟨n + 1, A5, n + 1, c5, by omega, by go_num, rfl, rfl, (SSt.push N5.out HXS.out ⟨hnm, smI (30 * ((n : Int) % 12)) (by omega) (by omega), smI 10 (by omega) (by omega), smI 0 (by omega) (by omega), smI 60 (by omega) (by omega)⟩).mono (by omega)⟩
            case measure => simp [intOf]; omega
          · have hd2 : decide ((n : Int) < 12 + t) = false := by simpa using hlt2
            go_wp2
            go_ret
            exact ⟨_, rfl, ⟨_, n, c, rfl, by omega, ⟨⟨xs, N2.out.mono (by omega), HXS.out⟩, ⟨q, rfl⟩⟩⟩, N2.out.cur.mono (by omega), N2.out.grown⟩
      · have d0 : (r == 0) = false := by simpa using e0
        have d0' : decide (r = 0) = false := by simpa using e0
        by_cases e1 : r = 1
        · subst e1
          by_cases hm1 : 1 < n
          · have hd1 : decide ((1 : Int) < (n : Int)) = true := by simp; omega
            have hxl : xs.length = n := by have := N1.out.row.1; rw [shades_len] at this; omega
            obtain ⟨W9, rfl⟩ : ∃ W9 : World, W9 = w1 := ⟨_, rfl⟩
            obtain ⟨b0, off0, x, eb0, hb0, hx0, c0, c1, c2, c3, c4⟩ := Shade.at_ (Rd.own N1.out.row) hxl (show 0 < n by omega)
            injection eb0 with eb0; injection eb0 with eb1 eb2; subst eb1; subst eb2
            simp only [Nat.zero_mul, Nat.zero_add] at c0 c1 c2 c3 c4
            have hnc := own_le N1.out.row
            have hc1 : ¬ c = 1 := by omega
            have hA2 : (if c = 1 then (some ⟨q, 0, none⟩ : Option Addr) else some ⟨q, 5, none⟩) = some ⟨q, 5, none⟩ := if_neg hc1
            have jz1 : (1 : Int) ≤ (n : Int) := by omega
            have jz2 : 1 ≤ n := by omega
            have jz3 : 1 ≤ c := by omega
            have jz4 : (0 : Int) < (n : Int) := by omega
            have jz5 : 0 < n := by omega
            have jz6 : ¬ n = 0 := by omega
            have HS1 := Lib.hid (show ∀ W, Ext W9 W → ∀ i u, ((xs.drop 1).flatMap Shade.cs)[i]? = some u → W.cell? ((⟨q, 5, none⟩ : Addr).add i) = some u from fun W he' i u hu => by
              rw [Addr.add_mid]
              exact he'.cell1 (own_at N1.out.row (drop_cells (k := 1) (by omega) hu)))
            have HL2 := Lib.hid (show ((xs.drop 1).flatMap Shade.cs).length = (n - 1) * 5 by rw [shades_len, List.length_drop]; omega)
            have HE := Lib.hid (show (xs.drop 1).flatMap Shade.cs ++ x.cs = (xs.drop 1 ++ [x]).flatMap Shade.cs by simp [List.flatMap_append])
            have HM := Lib.hid (show ∀ y ∈ xs.drop 1 ++ [x], ShadeSm y from fun y hy => by
              rcases List.mem_append.1 hy with hy | hy
              · exact HXS.out y (List.mem_of_mem_drop hy)
              · simp at hy; subst hy; exact HXS.out _ (List.mem_of_getElem? hx0.out))
            have hnk : n - 1 + 1 = n := by omega
            have hzw : q < W9.heap.size := hb0
            go_wp2
            refine wp_region_held_drew (S := fun w' => Ext W9 w') (by kernel_rfl) ?_ (fun hHeld => ?_); (focus exact (Ext.refl W9).drew)
            refine wpAnyH_take (i := 1) (v := ?_) rfl (by kernel_rfl) (by kernel_rfl) (by kernel_rfl) (fun _ _ _ h => h) (Or.inl ⟨by rfl, ?_⟩) (by assumption) ?_; rotate_left 1; (focus (intro w hSw; (try dsimp only at hSw); go_simp; (try with_reducible rfl))); (try simp only [Act.put, List.setIfInBounds_toArray, List.set_cons_zero, List.set_cons_succ])
            refine wpAnyH_take (i := 2) (v := ?_) rfl (by kernel_rfl) (by kernel_rfl) (by kernel_rfl) (fun _ _ _ h => h) (Or.inl ⟨by rfl, ?_⟩) (by assumption) ?_; rotate_left 1; (focus (intro w hSw; (try dsimp only at hSw); go_simp; (try with_reducible rfl))); (try simp only [Act.put, List.setIfInBounds_toArray, List.set_cons_zero, List.set_cons_succ])
            refine wpAnyH_take (i := 4) (v := ?_) rfl (by kernel_rfl) (by kernel_rfl) (by kernel_rfl) (fun _ _ _ h => h) (Or.inl ⟨by rfl, ?_⟩) (by assumption) ?_; rotate_left 1; (focus (intro w hSw; (try dsimp only at hSw); go_simp; (try with_reducible rfl))); (try simp only [Act.put, List.setIfInBounds_toArray, List.set_cons_zero, List.set_cons_succ])
            refine wpAnyH_take (i := 5) (v := ?_) rfl (by kernel_rfl) (by kernel_rfl) (by kernel_rfl) (fun _ _ _ h => h) (Or.inl ⟨by rfl, ?_⟩) (by assumption) ?_; rotate_left 1; (focus (intro w hSw; (try dsimp only at hSw); go_simp; (try with_reducible rfl))); (try simp only [Act.put, List.setIfInBounds_toArray, List.set_cons_zero, List.set_cons_succ])
            refine wpAnyH_take (i := 6) (v := ?_) rfl (by kernel_rfl) (by kernel_rfl) (by kernel_rfl) (fun _ _ _ h => h) (Or.inl ⟨by rfl, ?_⟩) (by assumption) ?_; rotate_left 1; (focus (intro w hSw; (try dsimp only at hSw); have yc0 := hSw.cell1 c0; have yc1 := hSw.cell1 c1; have yc2 := hSw.cell1 c2; have yc3 := hSw.cell1 c3; have yc4 := hSw.cell1 c4; go_simp; (try with_reducible rfl))); (try simp only [Act.put, List.setIfInBounds_toArray, List.set_cons_zero, List.set_cons_succ])
            have X0 := Lib.hid (show Ext W9 W9.drew from (Ext.refl W9).drew)
            clear hHeld c0 c1 c2 c3 c4
            refine wpAnyH_ready (rs := [0, 7]) (by kernel_rfl) (by simp) ?_; refine AllReadyH.cons rfl (fun K hK => ?_) (AllReadyH.cons rfl (fun K hK => ?_) (AllReadyH.nil))
            focus
              have X1 := Lib.hid (X0.out.alloc (.cells #[] 33))
              go_simp; (try simp only [Act.put, List.setIfInBounds_toArray, List.set_cons_zero, List.set_cons_succ]); (try go_wp2_with fail); refine hK.out _ _ ?_ (fun hHeld => ?_); (focus exact X1.out); clear hK K; (try simp only [Act.put, List.setIfInBounds_toArray, List.set_cons_zero, List.set_cons_succ])
              have bx1 := own_empty (W9.drew) W9.heap.size 33 5 (X0.out.size)
              (try simp only [World.size_alloc, World.size_drew] at bx1)
              have el1 := Lib.hid bx1
              clear bx1
              refine wpAnyH_ready (rs := [3, 7]) (by kernel_rfl) (by simp) ?_; refine AllReadyH.cons rfl (fun K hK => ?_) (AllReadyH.cons rfl (fun K hK => ?_) (AllReadyH.nil))
              focus
                refine step_app_own rfl (.tmp 54) (.tmp 56) 28 rfl W9.heap.size 33 i0 (.agg #[.string ByteArray.empty, .int .i64 0, .int .i64 0, .int .i64 0, .int .i64 0]) 5 48 Tryd.underlying28 hi0 hz0v hzz1 hzz2 rfl (by decide) (.slice (some ⟨W9.heap.size, 0, none⟩) 0 0) 0 [] rfl el1.out ⟨q, 5, none⟩ (n - 1) (c - 1) ((xs.drop 1).flatMap Shade.cs) rfl HL2.out (HS1.out _ X1.out) (shades_one _) (by unfold maxLen; omega) (by omega) X1.out.size 57 rfl (n - 1) (Nat.zero_add _) ((xs.drop 1).flatMap Shade.cs) (List.nil_append _) ?_; intro Ap2 cp2 w2 op2 gp2; have X2 := Lib.hid (X1.out.grown gp2 (fun q hq => (el1.out.lt q hq).1)); have el2 := Lib.hid op2; clear op2 gp2; (try simp only [Act.put, List.setIfInBounds_toArray, List.set_cons_zero, List.set_cons_succ]); refine hK.out _ _ ?_ (fun hHeld => ?_); (focus exact X2.out); clear hK K; (try simp only [Act.put, List.setIfInBounds_toArray, List.set_cons_zero, List.set_cons_succ])
                have X3 := Lib.hid (X2.out.alloc (.cells #[.string x.Name, .int .i64 x.Hue, .int .i64 x.Width, .int .i64 x.Dark, .int .i64 x.Light] 33))
                refine wpAnyH_ready (rs := [7]) (by kernel_rfl) (by simp) ?_; refine AllReadyH.cons rfl (fun K hK => ?_) AllReadyH.nil; go_simp; (try simp only [Act.put, List.setIfInBounds_toArray, List.set_cons_zero, List.set_cons_succ]); (try go_wp2_with fail); refine hK.out _ _ ?_ (fun hHeld => ?_); (focus exact X3.out); clear hK K; (try simp only [Act.put, List.setIfInBounds_toArray, List.set_cons_zero, List.set_cons_succ])
                have bx3 := own_block (w2) 33 x.cs
                (try simp only [World.size_alloc, World.size_drew] at bx3)
                have el3 := Lib.hid (((Ext.refl (w2)).alloc (.cells #[.string x.Name, .int .i64 x.Hue, .int .i64 x.Width, .int .i64 x.Dark, .int .i64 x.Light] 33)).own el2.out)
                have pr3 := Lib.hid bx3
                clear bx3
                refine wpAnyH_ready (rs := [8]) (by kernel_rfl) (by simp) ?_; refine AllReadyH.cons rfl (fun K hK => ?_) AllReadyH.nil; refine step_app_own rfl (.tmp 57) (.tmp 61) 28 rfl W9.heap.size 33 i0 (.agg #[.string ByteArray.empty, .int .i64 0, .int .i64 0, .int .i64 0, .int .i64 0]) 5 48 Tryd.underlying28 hi0 hz0v hzz1 hzz2 rfl (by decide) (.slice Ap2 (n - 1) cp2) (n - 1) ((xs.drop 1).flatMap Shade.cs) rfl el3.out ⟨w2.heap.size, 0, none⟩ 1 1 x.cs rfl rfl (fun j u hj => by rw [Addr.add_mid, Nat.zero_add]; exact own_at pr3.out hj) (shade_one x) (by unfold maxLen; omega) (by omega) X3.out.size 62 rfl n hnk ((xs.drop 1 ++ [x]).flatMap Shade.cs) HE.out ?_; intro A9 c9 W10 op4 gp4; have X4 := Lib.hid (X3.out.grown gp4 (fun q hq => (el3.out.lt q hq).1)); have el4 := Lib.hid op4; clear op4 gp4; (try simp only [Act.put, List.setIfInBounds_toArray, List.set_cons_zero, List.set_cons_succ]); refine hK.out _ _ ?_ (fun hHeld => ?_); (focus exact X4.out); clear hK K; (try simp only [Act.put, List.setIfInBounds_toArray, List.set_cons_zero, List.set_cons_succ])
                refine wpAnyH_take (i := 9) (v := ?_) rfl (by kernel_rfl) (by kernel_rfl) (by kernel_rfl) (fun _ _ _ h => h) (Or.inl ⟨by rfl, ?_⟩) (by assumption) ?_; rotate_left 1; (focus (intro w hSw; (try dsimp only at hSw); go_simp; (try with_reducible rfl))); (try simp only [Act.put, List.setIfInBounds_toArray, List.set_cons_zero, List.set_cons_succ])
                refine wpAnyH_done (by kernel_rfl) ?_ _
                have OD := Lib.hid el4.out
                have X10 := Lib.hid X4.out
              rotate_left 1
              focus
                have X2 := Lib.hid (X1.out.alloc (.cells #[.string x.Name, .int .i64 x.Hue, .int .i64 x.Width, .int .i64 x.Dark, .int .i64 x.Light] 33))
                go_simp; (try simp only [Act.put, List.setIfInBounds_toArray, List.set_cons_zero, List.set_cons_succ]); (try go_wp2_with fail); refine hK.out _ _ ?_ (fun hHeld => ?_); (focus exact X2.out); clear hK K; (try simp only [Act.put, List.setIfInBounds_toArray, List.set_cons_zero, List.set_cons_succ])
                have bx2 := own_block ((W9.drew.alloc (.cells #[] 33))) 33 x.cs
                (try simp only [World.size_alloc, World.size_drew] at bx2)
                have el2 := Lib.hid (((Ext.refl ((W9.drew.alloc (.cells #[] 33)))).alloc (.cells #[.string x.Name, .int .i64 x.Hue, .int .i64 x.Width, .int .i64 x.Dark, .int .i64 x.Light] 33)).own el1.out)
                have pr2 := Lib.hid bx2
                clear bx2
                refine wpAnyH_ready (rs := [3]) (by kernel_rfl) (by simp) ?_; refine AllReadyH.cons rfl (fun K hK => ?_) AllReadyH.nil; refine step_app_own rfl (.tmp 54) (.tmp 56) 28 rfl W9.heap.size 33 i0 (.agg #[.string ByteArray.empty, .int .i64 0, .int .i64 0, .int .i64 0, .int .i64 0]) 5 48 Tryd.underlying28 hi0 hz0v hzz1 hzz2 rfl (by decide) (.slice (some ⟨W9.heap.size, 0, none⟩) 0 0) 0 [] rfl el2.out ⟨q, 5, none⟩ (n - 1) (c - 1) ((xs.drop 1).flatMap Shade.cs) rfl HL2.out (HS1.out _ X2.out) (shades_one _) (by unfold maxLen; omega) (by omega) X2.out.size 57 rfl (n - 1) (Nat.zero_add _) ((xs.drop 1).flatMap Shade.cs) (List.nil_append _) ?_; intro Ap3 cp3 w3 op3 gp3; have X3 := Lib.hid (X2.out.grown gp3 (fun q hq => (el2.out.lt q hq).1)); have pr3 := Lib.hid (pr2.out.kept gp3 (Or.inr (by simp [Value.ownBlock]; try omega))); have el3 := Lib.hid op3; clear op3 gp3; (try simp only [Act.put, List.setIfInBounds_toArray, List.set_cons_zero, List.set_cons_succ]); refine hK.out _ _ ?_ (fun hHeld => ?_); (focus exact X3.out); clear hK K; (try simp only [Act.put, List.setIfInBounds_toArray, List.set_cons_zero, List.set_cons_succ])
                refine wpAnyH_ready (rs := [8]) (by kernel_rfl) (by simp) ?_; refine AllReadyH.cons rfl (fun K hK => ?_) AllReadyH.nil; refine step_app_own rfl (.tmp 57) (.tmp 61) 28 rfl W9.heap.size 33 i0 (.agg #[.string ByteArray.empty, .int .i64 0, .int .i64 0, .int .i64 0, .int .i64 0]) 5 48 Tryd.underlying28 hi0 hz0v hzz1 hzz2 rfl (by decide) (.slice Ap3 (n - 1) cp3) (n - 1) ((xs.drop 1).flatMap Shade.cs) rfl el3.out ⟨W9.heap.size + 1, 0, none⟩ 1 1 x.cs rfl rfl (fun j u hj => by rw [Addr.add_mid, Nat.zero_add]; exact own_at pr3.out hj) (shade_one x) (by unfold maxLen; omega) (by omega) X3.out.size 62 rfl n hnk ((xs.drop 1 ++ [x]).flatMap Shade.cs) HE.out ?_; intro A9 c9 W10 op4 gp4; have X4 := Lib.hid (X3.out.grown gp4 (fun q hq => (el3.out.lt q hq).1)); have el4 := Lib.hid op4; clear op4 gp4; (try simp only [Act.put, List.setIfInBounds_toArray, List.set_cons_zero, List.set_cons_succ]); refine hK.out _ _ ?_ (fun hHeld => ?_); (focus exact X4.out); clear hK K; (try simp only [Act.put, List.setIfInBounds_toArray, List.set_cons_zero, List.set_cons_succ])
                refine wpAnyH_take (i := 9) (v := ?_) rfl (by kernel_rfl) (by kernel_rfl) (by kernel_rfl) (fun _ _ _ h => h) (Or.inl ⟨by rfl, ?_⟩) (by assumption) ?_; rotate_left 1; (focus (intro w hSw; (try dsimp only at hSw); go_simp; (try with_reducible rfl))); (try simp only [Act.put, List.setIfInBounds_toArray, List.set_cons_zero, List.set_cons_succ])
                refine wpAnyH_done (by kernel_rfl) ?_ _
                have OD := Lib.hid el4.out
                have X10 := Lib.hid X4.out
              rotate_left 1
            rotate_left 2
            focus
              have X1 := Lib.hid (X0.out.alloc (.cells #[.string x.Name, .int .i64 x.Hue, .int .i64 x.Width, .int .i64 x.Dark, .int .i64 x.Light] 33))
              go_simp; (try simp only [Act.put, List.setIfInBounds_toArray, List.set_cons_zero, List.set_cons_succ]); (try go_wp2_with fail); refine hK.out _ _ ?_ (fun hHeld => ?_); (focus exact X1.out); clear hK K; (try simp only [Act.put, List.setIfInBounds_toArray, List.set_cons_zero, List.set_cons_succ])
              have bx1 := own_block (W9.drew) 33 x.cs
              (try simp only [World.size_alloc, World.size_drew] at bx1)
              have pr1 := Lib.hid bx1
              clear bx1
              have X2 := Lib.hid (X1.out.alloc (.cells #[] 33))
              refine wpAnyH_ready (rs := [0]) (by kernel_rfl) (by simp) ?_; refine AllReadyH.cons rfl (fun K hK => ?_) AllReadyH.nil; go_simp; (try simp only [Act.put, List.setIfInBounds_toArray, List.set_cons_zero, List.set_cons_succ]); (try go_wp2_with fail); refine hK.out _ _ ?_ (fun hHeld => ?_); (focus exact X2.out); clear hK K; (try simp only [Act.put, List.setIfInBounds_toArray, List.set_cons_zero, List.set_cons_succ])
              have bx2 := own_empty ((W9.drew.alloc (.cells #[.string x.Name, .int .i64 x.Hue, .int .i64 x.Width, .int .i64 x.Dark, .int .i64 x.Light] 33))) W9.heap.size 33 5 (X1.out.size)
              (try simp only [World.size_alloc, World.size_drew] at bx2)
              have pr2 := Lib.hid (((Ext.refl ((W9.drew.alloc (.cells #[.string x.Name, .int .i64 x.Hue, .int .i64 x.Width, .int .i64 x.Dark, .int .i64 x.Light] 33)))).alloc (.cells #[] 33)).own pr1.out)
              have el2 := Lib.hid bx2
              clear bx2
              refine wpAnyH_ready (rs := [3]) (by kernel_rfl) (by simp) ?_; refine AllReadyH.cons rfl (fun K hK => ?_) AllReadyH.nil; refine step_app_own rfl (.tmp 54) (.tmp 56) 28 rfl W9.heap.size 33 i0 (.agg #[.string ByteArray.empty, .int .i64 0, .int .i64 0, .int .i64 0, .int .i64 0]) 5 48 Tryd.underlying28 hi0 hz0v hzz1 hzz2 rfl (by decide) (.slice (some ⟨W9.heap.size + 1, 0, none⟩) 0 0) 0 [] rfl el2.out ⟨q, 5, none⟩ (n - 1) (c - 1) ((xs.drop 1).flatMap Shade.cs) rfl HL2.out (HS1.out _ X2.out) (shades_one _) (by unfold maxLen; omega) (by omega) X2.out.size 57 rfl (n - 1) (Nat.zero_add _) ((xs.drop 1).flatMap Shade.cs) (List.nil_append _) ?_; intro Ap3 cp3 w3 op3 gp3; have X3 := Lib.hid (X2.out.grown gp3 (fun q hq => (el2.out.lt q hq).1)); have pr3 := Lib.hid (pr2.out.kept gp3 (Or.inr (by simp [Value.ownBlock]; try omega))); have el3 := Lib.hid op3; clear op3 gp3; (try simp only [Act.put, List.setIfInBounds_toArray, List.set_cons_zero, List.set_cons_succ]); refine hK.out _ _ ?_ (fun hHeld => ?_); (focus exact X3.out); clear hK K; (try simp only [Act.put, List.setIfInBounds_toArray, List.set_cons_zero, List.set_cons_succ])
              refine wpAnyH_ready (rs := [8]) (by kernel_rfl) (by simp) ?_; refine AllReadyH.cons rfl (fun K hK => ?_) AllReadyH.nil; refine step_app_own rfl (.tmp 57) (.tmp 61) 28 rfl W9.heap.size 33 i0 (.agg #[.string ByteArray.empty, .int .i64 0, .int .i64 0, .int .i64 0, .int .i64 0]) 5 48 Tryd.underlying28 hi0 hz0v hzz1 hzz2 rfl (by decide) (.slice Ap3 (n - 1) cp3) (n - 1) ((xs.drop 1).flatMap Shade.cs) rfl el3.out ⟨W9.heap.size, 0, none⟩ 1 1 x.cs rfl rfl (fun j u hj => by rw [Addr.add_mid, Nat.zero_add]; exact own_at pr3.out hj) (shade_one x) (by unfold maxLen; omega) (by omega) X3.out.size 62 rfl n hnk ((xs.drop 1 ++ [x]).flatMap Shade.cs) HE.out ?_; intro A9 c9 W10 op4 gp4; have X4 := Lib.hid (X3.out.grown gp4 (fun q hq => (el3.out.lt q hq).1)); have el4 := Lib.hid op4; clear op4 gp4; (try simp only [Act.put, List.setIfInBounds_toArray, List.set_cons_zero, List.set_cons_succ]); refine hK.out _ _ ?_ (fun hHeld => ?_); (focus exact X4.out); clear hK K; (try simp only [Act.put, List.setIfInBounds_toArray, List.set_cons_zero, List.set_cons_succ])
              refine wpAnyH_take (i := 9) (v := ?_) rfl (by kernel_rfl) (by kernel_rfl) (by kernel_rfl) (fun _ _ _ h => h) (Or.inl ⟨by rfl, ?_⟩) (by assumption) ?_; rotate_left 1; (focus (intro w hSw; (try dsimp only at hSw); go_simp; (try with_reducible rfl))); (try simp only [Act.put, List.setIfInBounds_toArray, List.set_cons_zero, List.set_cons_succ])
              refine wpAnyH_done (by kernel_rfl) ?_ _
              have OD := Lib.hid el4.out
              have X10 := Lib.hid X4.out
            rotate_left 1
            all_goals
              (try simp only [List.getElem_toArray, List.getElem_cons_succ, List.getElem_cons_zero, List.setIfInBounds_toArray, List.set_cons_succ, List.set_cons_zero])
              have h6 := own_low' OD.out (show w.heap.size ≤ W9.heap.size from N1.out.sz_le)
              have NF := Lib.hid (show DSt w g (b + 20 * 6 + 2) 33 5 A9 n c9 ((xs.drop 1 ++ [x]).flatMap Shade.cs) W10 from ⟨N1.out.cur.ext X10.out, h6, grown_trans N1.out.grown (grown_of_ext X10.out), N1.out.hg⟩)
              have hA9 : ∃ q9, A9 = some ⟨q9, 0, none⟩ := by
                obtain ⟨q9, cap, hv, _⟩ := h6.form (by omega)
                injection hv with hv
                exact ⟨q9, hv⟩
              go_wp2
              go_ret
              exact ⟨_, rfl, ⟨A9, n, c9, rfl, by omega, ⟨⟨_, NF.out.mono (by omega), HM.out⟩, hA9⟩⟩, NF.out.cur.mono (by omega), NF.out.grown⟩
          · have hd1 : decide ((1 : Int) < (n : Int)) = false := by simp; omega
            go_wp2
            go_ret
            exact ⟨_, rfl, ⟨_, n, c, rfl, by omega, ⟨⟨xs, N1.out.mono (by omega), HXS.out⟩, ⟨q, rfl⟩⟩⟩, N1.out.cur.mono (by omega), N1.out.grown⟩
        · have d1 : (r == 1) = false := by simpa using e1
          have d1' : decide (r = 1) = false := by simpa using e1
          go_wp2
          go_ret
          exact ⟨_, rfl, ⟨_, n, c, rfl, by omega, ⟨⟨xs, N1.out.mono (by omega), HXS.out⟩, ⟨q, rfl⟩⟩⟩, N1.out.cur.mono (by omega), N1.out.grown⟩
end Go.Proofs.YtekfccfghmggmaaDoor
