/- The draw of a list of combs, and the draws of the statement on combs. -/
import Derived.Test.YtoafaejhabjlnaaDoorDrawComb
import Derived.Deep.CutBlock
import Derived.Deep.DeepCutAuto
namespace Go.Proofs.YtoafaejhabjlnaaDoor
open Go.RowKit
set_option linter.unusedVariables false
set_option linter.unusedSimpArgs false
attribute [local go_sem] ExtOf.cell

theorem own_le {w : World} {base T size n c : Nat} {A : Option Addr} {cs : List Value} (h : w.ownsRow base T size (.slice A n c) n cs) : n ≤ c := by
  rcases h.2 with ⟨h1, h2⟩ | ⟨g, cap, cur, h1, _, _, h4, _⟩
  · omega
  · injection h1 with _ _ e3; omega
theorem quo149 {x : Int} (h0 : 0 ≤ x) (h1 : x < 150) : (x.tdiv 149 = 0 ∧ x / 149 = 0) ∨ (x.tdiv 149 = 1 ∧ x / 149 = 1) := by
  rw [Int.tdiv_eq_ediv_of_nonneg h0]; omega
theorem combs_snoc (xs : List Comb) (x : Comb) : xs.flatMap Comb.cs ++ x.cs = (xs ++ [x]).flatMap Comb.cs := by simp [List.flatMap_append]
theorem DSt.combL {w0 w : World} {g b : Nat} {A : Option Addr} {n c : Nat} {xs : List Comb} (h : DSt w0 g b 32 4 A n c (xs.flatMap Comb.cs) w) (hn : n ≤ 40) : CombL w A n xs :=
  ⟨by have := h.row.1; rw [flat_length Comb.cs 4 Comb.len] at this; omega, by omega, Rd.own h.row⟩
set_option maxRecDepth 100000 in
set_option maxHeartbeats 8000000 in
theorem combs5_any (g b : Nat) (w : World) (h : Cur w g b) (hb : b ≤ 10000) :
    Calls Tryd.prog 23 #[.pointer (some ⟨g, 0, none⟩)] w (CurPost g (b + 1000) w (fun v w' => ∃ (A : Option Addr) (n c : Nat) (xs : List Comb), v = .slice A n c ∧ n ≤ 40 ∧ DSt w g (b + 1000) 32 4 A n c (xs.flatMap Comb.cs) w')) := by
  have hgw := h.lt
  have o0 := own_empty w w.heap.size 32 4 (Nat.le_refl _)
  have S0 := Lib.hid (show DSt w g b 32 4 (some ⟨w.heap.size, 0, none⟩) 0 0 [] (w.alloc (.cells #[] 32)) from ⟨h.ext ((Ext.refl _).alloc _), o0, grown_of_ext ((Ext.refl _).alloc _), hgw⟩)
  clear o0 h
  go_enter Tryd.func23, Tryd.ntmps23
  go_wp2_with fail
  refine (pick_any g _ 7 _ S0.out.cur (by omega) (by omega)).mono ?_
  rintro e w1 ⟨v, rfl, ⟨r, rfl, r0, r1⟩, C1, G1⟩
  have S1 := Lib.hid (S0.out.draw C1 G1)
  obtain ⟨r, rfl⟩ : ∃ q : Nat, r = q := ⟨r.toNat, by omega⟩
  have hr6 : r ≤ 6 := by omega
  clear C1 G1 S0 r0 r1
  go_wp2_with fail
  go_loopw [3, 4, 5] (fun o d p wr => ∃ (k m oc q : Nat) (id : Int) (xs : List Comb), p = .int .i64 k ∧ k ≤ 6 ∧ m + k ≤ 6 ∧ d = .int .i64 id ∧ -100 + 10 * (k : Int) ≤ id ∧ id ≤ 100 - 10 * (k : Int) ∧ o = .slice (some ⟨q, 0, none⟩) m oc ∧ DSt w g (b + 2 + 30 * (6 - k)) 32 4 (some ⟨q, 0, none⟩) m oc (xs.flatMap Comb.cs) wr) (fun _ _ p _ => (intOf p).toNat)
  case atStart => exact ⟨r, 0, 0, _, 0, [], rfl, hr6, by omega, rfl, by omega, by omega, rfl, S1.out.mono (by omega)⟩
  case round =>
    obtain ⟨k, m, oc, q, id, xs, rfl, hk, hmk, rfl, hi1, hi2, rfl, hst⟩ := hrel
    have N1 := Lib.hid hst
    clear hst S1
    by_cases hlt : 0 < k
    · have hkd : decide ((0 : Int) < (k : Int)) = true := by simp; omega
      go_wp2_with fail
      refine (pick_any g _ 3 _ N1.out.cur (by omega) (by omega)).mono ?_
      rintro e w2 ⟨v, rfl, ⟨a, rfl, a0, a1⟩, C2, G2⟩
      go_wp2_with fail
      refine (pick_any g _ 150 _ C2 (by omega) (by omega)).mono ?_
      rintro e w3 ⟨v, rfl, ⟨z, rfl, z0, z1⟩, C3, G3⟩
      have N3 := Lib.hid ((N1.out.draw C2 G2).draw C3 G3)
      have hq := quo149 z0 (by omega)
      clear C2 C3 G2 G3 N1
      rcases hq with ⟨q1, q2⟩ | ⟨q1, q2⟩
      · go_wp2_with fail
        refine (comb5_any g _ _ _ N3.out.cur (by omega)).mono ?_
        rintro e w4 ⟨v, rfl, ⟨x, rfl⟩, C4, G4⟩
        have N4 := Lib.hid ((N3.out.draw C4 G4).step ((Ext.refl w4).alloc (.cells #[.int .i64 x.Id, .int .i64 x.Wide, .int .i64 x.High, .bool x.Line] 32)))
        clear C4 G4 N3
        go_wp2_with (at_builtin; refine app_comb rfl _ _ rfl w.heap.size m oc (some ⟨q, 0, none⟩) (xs.flatMap Comb.cs) x w4.heap.size w4.heap.size rfl rfl N4.out.row (own_block w4 32 x.cs) (by omega) N4.out.sz_le ?_; intro A5 c5 w5 op gp)
        have N5 := N4.out.app op gp
        rw [combs_snoc] at N5
        have N5 := Lib.hid N5
        obtain ⟨q5, cap, hv, _⟩ := op.form (by omega)
        injection hv with hA
        subst hA
        clear op gp
        go_roundw
        case rel => exact ⟨k - 1, m + 1, c5, q5, _, _, by go_num, by omega, by omega, rfl, by omega, by omega, rfl, N5.out.mono (by omega)⟩
        case measure => simp [intOf]; omega
      · go_wp2_with fail
        refine (comb5_any g _ _ _ N3.out.cur (by omega)).mono ?_
        rintro e w4 ⟨v, rfl, ⟨x, rfl⟩, C4, G4⟩
        have N4 := Lib.hid ((N3.out.draw C4 G4).step ((Ext.refl w4).alloc (.cells #[.int .i64 x.Id, .int .i64 x.Wide, .int .i64 x.High, .bool x.Line] 32)))
        clear C4 G4 N3
        go_wp2_with (at_builtin; refine app_comb rfl _ _ rfl w.heap.size m oc (some ⟨q, 0, none⟩) (xs.flatMap Comb.cs) x w4.heap.size w4.heap.size rfl rfl N4.out.row (own_block w4 32 x.cs) (by omega) N4.out.sz_le ?_; intro A5 c5 w5 op gp)
        have N5 := N4.out.app op gp
        rw [combs_snoc] at N5
        have N5 := Lib.hid N5
        obtain ⟨q5, cap, hv, _⟩ := op.form (by omega)
        injection hv with hA
        subst hA
        clear op gp
        go_roundw
        case rel => exact ⟨k - 1, m + 1, c5, q5, _, _, by go_num, by omega, by omega, rfl, by omega, by omega, rfl, N5.out.mono (by omega)⟩
        case measure => simp [intOf]; omega
    · obtain rfl : k = 0 := by omega
      go_wp2_with fail
      refine (one_any g _ 24 _ N1.out.cur (by omega) (by omega)).mono ?_
      rintro e w2 ⟨v, rfl, ⟨ok, rfl⟩, C2, G2⟩
      have N2 := Lib.hid (N1.out.draw C2 G2)
      clear C2 G2 N1
      cases ok
      · go_wp2
        go_ret
        exact ⟨_, rfl, ⟨_, m, oc, xs, rfl, by omega, N2.out.mono (by omega)⟩, N2.out.cur.mono (by omega), N2.out.grown⟩
      · have o9 := own_empty w2 w.heap.size 32 4 N2.out.sz_le
        have E9 := (Ext.refl w2).alloc (.cells #[] 32)
        have N9 := Lib.hid (show DSt w g (b + 200) 32 4 (some ⟨w2.heap.size, 0, none⟩) 0 0 [] (w2.alloc (.cells #[] 32)) from ⟨(N2.out.cur.mono (by omega)).ext E9, o9, grown_trans N2.out.grown (grown_of_ext E9), hgw⟩)
        clear o9 E9 N2
        go_wp2_with fail
        go_loopw [3, 6] (fun o i wr => ∃ (k oc q : Nat) (xs : List Comb), k ≤ 11 ∧ i = .int .i64 k ∧ o = .slice (some ⟨q, 0, none⟩) k oc ∧ DSt w g (b + 200 + 2 * k) 32 4 (some ⟨q, 0, none⟩) k oc (xs.flatMap Comb.cs) wr) (fun _ i _ => 40 - (intOf i).toNat)
        case atStart => exact ⟨0, 0, _, [], Nat.zero_le _, rfl, rfl, N9.out⟩
        case round =>
          obtain ⟨k, oc, q, xs, hk, rfl, rfl, hst⟩ := hrel
          have N1 := Lib.hid hst
          clear hst N9
          go_wp2_with fail
          refine (pick_any g _ 2 _ N1.out.cur (by omega) (by omega)).mono ?_
          rintro e w3 ⟨v, rfl, ⟨t, rfl, t0, t1⟩, C3, G3⟩
          have N3 := Lib.hid (N1.out.draw C3 G3)
          clear C3 G3 N1
          by_cases hlt2 : (k : Int) < 10 + t
          · have hd2 : decide ((k : Int) < 10 + t) = true := by simpa using hlt2
            have N4 := Lib.hid (N3.out.step ((Ext.refl w3).alloc (.cells #[.int .i64 ((k : Int) + 1), .int .i64 (1100 + 50 * ((k : Int) % 3)), .int .i64 1200, .bool false] 32)))
            clear N3
            go_wp2_with (at_builtin; refine app_comb rfl _ _ rfl w.heap.size k oc (some ⟨q, 0, none⟩) (xs.flatMap Comb.cs) ⟨(k : Int) + 1, 1100 + 50 * ((k : Int) % 3), 1200, false⟩ w3.heap.size w3.heap.size rfl rfl N4.out.row (own_block w3 32 (Comb.cs ⟨(k : Int) + 1, 1100 + 50 * ((k : Int) % 3), 1200, false⟩)) (by omega) N4.out.sz_le ?_; intro A5 c5 w5 op gp)
            have N5 := N4.out.app op gp
            rw [combs_snoc] at N5
            have N5 := Lib.hid N5
            obtain ⟨q5, cap, hv, _⟩ := op.form (by omega)
            injection hv with hA
            subst hA
            clear op gp
            go_roundw
            case rel => exact ⟨k + 1, c5, q5, _, by omega, by go_num, rfl, N5.out.mono (by omega)⟩
            case measure => simp [intOf]; omega
          · have hd2 : decide ((k : Int) < 10 + t) = false := by simpa using hlt2
            go_wp2
            go_ret
            exact ⟨_, rfl, ⟨_, k, oc, xs, rfl, by omega, N3.out.mono (by omega)⟩, N3.out.cur.mono (by omega), N3.out.grown⟩
end Go.Proofs.YtoafaejhabjlnaaDoor
