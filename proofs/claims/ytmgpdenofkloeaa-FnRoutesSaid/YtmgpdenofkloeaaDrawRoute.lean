/- The draw of a route. -/
import Derived.Test.YtmgpdenofkloeaaDrawMails
import Derived.Test.YtmgpdenofkloeaaEarl
import Derived.Deep.DeepCutAuto
namespace Go.Proofs.Ytmgpdenofkloeaa
open Go.RowKit
set_option linter.unusedVariables false
set_option linter.unusedSimpArgs false
attribute [local go_sem] ExtOf.cell

theorem int_nil : ints [] = [] := rfl
theorem ints_one (x : Int) : [Value.int .i64 x] = ints [x] := rfl
set_option maxRecDepth 100000 in
set_option maxHeartbeats 4000000 in
theorem routeOf_any (g b : Nat) (L : Option Addr) (n lc : Nat) (xs : List Mail) (f t : Int) (w : World) (h : Cur w g b) (hb : b ≤ 100000) (hL : MailL w L n xs) (hn : n ≤ 40) (ho : Off L g) :
    Calls Try.prog 36 #[.pointer (some ⟨g, 0, none⟩), .slice L n lc, .int .i64 f, .int .i64 t] w (CurPost g (b + 200) w (fun v w' => ∃ (C : Option Addr) (rn rc : Nat) (r : List Int), v = .slice C rn rc ∧ rn ≤ n + 1 ∧ Rd w' C rn 1 (ints r))) := by
  have hgw := h.lt
  have o0 := own_empty w w.heap.size 3 1 (Nat.le_refl _)
  have S0 := Lib.hid (show DSt w g b 3 1 (some ⟨w.heap.size, 0, none⟩) 0 0 (ints []) (w.alloc (.cells #[] 3)) from ⟨h.ext ((Ext.refl _).alloc _), o0, grown_of_ext ((Ext.refl _).alloc _), hgw⟩)
  have HL := Lib.hid (fun (W : World) (hg : w.grownBy W (some g)) => (show MailL W L n xs from ⟨hL.len, hL.small, hL.wf, hL.rd.grown hg ho⟩))
  have H0 := Lib.hid (hL.ext ((Ext.refl w).alloc (.cells #[] 3)))
  clear o0 hL h ho
  go_enter Try.func36, Try.ntmps36
  go_wp2_with fail
  refine (l9Good_any L n lc xs _ H0.out).mono ?_
  rintro e w0 ⟨rfl, e0⟩
  have S1 := Lib.hid (S0.out.step e0)
  clear S0 H0 e0
  go_upto_if 13 with fail
  go_cut [2, 3, 9] from 10 (fun fv tv p W => ∃ (A : Option Addr) (m c : Nat) (r : List Int), p = .slice A m c ∧ m ≤ n ∧ (∃ q, A = some ⟨q, 0, none⟩) ∧ DSt w g (b + 2 * n) 3 1 A m c (ints r) W)
  case first =>
    cases hok : MailsOk xs
    · go_wp2
      go_meet
      exact ⟨_, 0, 0, [], rfl, by omega, ⟨_, rfl⟩, S1.out.mono (by omega)⟩
    · go_wp2
      go_loopw [2, 3, 9, 10] (fun fv tv o i wr => ∃ (k : Nat) (A : Option Addr) (m c : Nat) (r : List Int) (f t : Int), k ≤ n ∧ i = .int .i64 k ∧ fv = .int .i64 f ∧ tv = .int .i64 t ∧ o = .slice A m c ∧ m ≤ k ∧ (∃ q, A = some ⟨q, 0, none⟩) ∧ DSt w g (b + 2 * k) 3 1 A m c (ints r) wr) (fun _ _ _ i _ => n - (intOf i).toNat)
      case atStart => exact ⟨0, _, 0, 0, [], f, t, Nat.zero_le _, rfl, rfl, rfl, rfl, Nat.le_refl _, ⟨_, rfl⟩, S1.out⟩
      case round =>
        obtain ⟨k, A, m, c, r, f, t, hk, rfl, rfl, rfl, rfl, hm, ⟨q, rfl⟩, hst⟩ := hrel
        have N0 := Lib.hid hst
        clear hst S1
        by_cases hlt : k < n
        · obtain ⟨b0, off, x, rfl, hb0, hx, g0, g1, g2, g3⟩ := (HL.out wr N0.out.grown).at_ hlt
          rcases chain2 (x.From == f) (decide (t ≤ x.Leave)) with h1 | ⟨h1, h2⟩ | ⟨h1, h2⟩
          iterate 2
            · go_wp2
              go_roundw
              case rel => exact ⟨k + 1, _, m, c, r, f, t, by omega, by go_num, rfl, rfl, rfl, by omega, ⟨q, rfl⟩, N0.out.mono (by omega)⟩
              case measure => simp [intOf]; omega
          · go_wp2_with fail
            refine (one_any g _ 4 _ N0.out.cur (by omega) (by omega)).mono ?_
            rintro e w1 ⟨v, rfl, ⟨ok, rfl⟩, C1, G1⟩
            have N1 := Lib.hid (N0.out.draw C1 G1)
            clear C1 G1 g0 g1 g2 g3 N0
            cases ok
            · have N2 := Lib.hid (N1.out.step ((Ext.refl w1).alloc (.cells #[.int .i64 (k : Int)] 3)))
              go_wp2_with (at_builtin; refine app_int rfl (.tmp 41) (.tmp 43) rfl w.heap.size m c w1.heap.size (some ⟨q, 0, none⟩) r (k : Int) rfl rfl N2.out.row (new_cell _ _ _ 0 _ rfl) (by omega) N2.out.sz_le ?_; intro A5 c5 w5 op gp hoff; have N5 := Lib.hid (N2.out.app op gp); obtain ⟨b2, off2, x2, eb2, hb2, hx2, p0, p1, p2, p3⟩ := (HL.out w5 N5.out.grown).at_ hlt; injection eb2 with eb2; injection eb2 with eb3 eb4; subst eb3; subst eb4; obtain rfl : x = x2 := (by have := hx.out.symm.trans hx2.out; injection this); clear op gp hoff)
              go_roundw
              case rel =>
                have hA5 : ∃ q9, A5 = some ⟨q9, 0, none⟩ := by
                  obtain ⟨q9, cap, hv, _⟩ := N5.out.row.form (by omega)
                  injection hv with hv
                  exact ⟨q9, hv⟩
                exact ⟨k + 1, A5, m + 1, c5, r ++ [(k : Int)], x.To, x.Arrive, by omega, by go_num, rfl, rfl, rfl, by omega, hA5, N5.out.mono (by omega)⟩
              case measure => simp [intOf]; omega
            · go_wp2
              go_roundw
              case rel => exact ⟨k + 1, _, m, c, r, f, t, by omega, by go_num, rfl, rfl, rfl, by omega, ⟨q, rfl⟩, N1.out.mono (by omega)⟩
              case measure => simp [intOf]; omega
        · obtain rfl : n = k := by omega
          go_wp2
          go_meet
          exact ⟨_, m, c, r, rfl, by omega, ⟨q, rfl⟩, N0.out⟩
  case rest =>
    obtain ⟨A, m, c, r, rfl, hm, ⟨q, rfl⟩, hst⟩ := hcut
    have N1 := Lib.hid hst
    clear hst S1
    go_wp2_with fail
    refine (pick_any g _ 12 _ N1.out.cur (by omega) (by omega)).mono ?_
    rintro e w1 ⟨v, rfl, ⟨u, rfl, u0, u1⟩, C1, G1⟩
    have N2 := Lib.hid (N1.out.draw C1 G1)
    clear C1 G1 N1
    by_cases e0 : u = 0
    · subst e0
      go_wp2_with fail
      refine (among_at g _ _ [0, -1, (n : Int)] (-1) 100 _ _ N2.out.cur rfl (by intro x hx; simp at hx; omega) (by omega) (by simp) (by simp)).mono ?_
      rintro e w2 ⟨v, rfl, ⟨z, rfl, z1, z2⟩, C2, G2⟩
      have N3 := Lib.hid ((N2.out.draw C2 G2).step ((Ext.refl w2).alloc (.cells #[.int .i64 z] 3)))
      clear C2 G2 N2
      go_wp2_with (at_builtin; refine app_int rfl (.tmp 59) (.tmp 65) rfl w.heap.size m c w2.heap.size (some ⟨q, 0, none⟩) r z rfl rfl N3.out.row (new_cell _ _ _ 0 _ rfl) (by omega) N3.out.sz_le ?_; intro A5 c5 w5 op gp hoff)
      have N5 := Lib.hid (N3.out.app op gp)
      go_ret
      exact ⟨_, rfl, ⟨A5, m + 1, c5, _, rfl, by omega, Rd.own N5.out.row⟩, N5.out.cur.mono (by omega), N5.out.grown⟩
    · have d0 : (u == 0) = false := by simpa using e0
      have d0' : decide (u = 0) = false := by simpa using e0
      by_cases e1 : u = 1
      · subst e1
        by_cases hm1 : 1 < m
        · have hd1 : decide ((1 : Int) < (m : Int)) = true := by simp; omega
          have hmc := own_le N2.out.row
          have hc1 : ¬ c = 1 := by omega
          have hA2 : (if c = 1 then (some ⟨q, 0, none⟩ : Option Addr) else some ⟨q, 1, none⟩) = some ⟨q, 1, none⟩ := if_neg hc1
          have jz1 : (1 : Int) ≤ (m : Int) := by omega
          have jz2 : 1 ≤ m := by omega
          have jz3 : 1 ≤ c := by omega
          go_wp2
          go_ret
          have hlen : r.length = m := by have := N2.out.row.1; rw [ints_length] at this; omega
          refine ⟨_, rfl, ⟨some ⟨q, 1, none⟩, m - 1, c - 1, r.drop 1, rfl, by omega, ⟨by rw [ints_length, List.length_drop]; omega, fun _ => ⟨q, 1, rfl, ?_, fun j v hv => ?_⟩⟩⟩, N2.out.cur.mono (by omega), N2.out.grown⟩
          · exact (N2.out.row.lt q rfl).2
          · refine own_at N2.out.row ?_
            simpa [ints, List.getElem?_drop, Nat.add_comm] using hv
        · have hd1 : decide ((1 : Int) < (m : Int)) = false := by simp; omega
          go_wp2
          go_ret
          exact ⟨_, rfl, ⟨_, m, c, r, rfl, by omega, Rd.own N2.out.row⟩, N2.out.cur.mono (by omega), N2.out.grown⟩
      · have d1 : (u == 1) = false := by simpa using e1
        have d1' : decide (u = 1) = false := by simpa using e1
        go_wp2
        go_ret
        exact ⟨_, rfl, ⟨_, m, c, r, rfl, by omega, Rd.own N2.out.row⟩, N2.out.cur.mono (by omega), N2.out.grown⟩
end Go.Proofs.Ytmgpdenofkloeaa
