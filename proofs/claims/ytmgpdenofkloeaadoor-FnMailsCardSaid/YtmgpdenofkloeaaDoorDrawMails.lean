/- The draw of a timetable (made by wip/drawmails.py). -/
import Derived.Test.YtmgpdenofkloeaaDoorDrawMail
import Derived.Test.YtmgpdenofkloeaaDoorMailW
import Derived.Deep.RegionHeld3
import Derived.Deep.CutBlock
import Derived.BigRegion
namespace Go.Proofs.YtmgpdenofkloeaaDoor
open Go.RowKit
set_option linter.unusedVariables false
set_option linter.unusedSimpArgs false
attribute [local go_sem] ExtOf.cell

theorem own_le {w : World} {base T size n c : Nat} {A : Option Addr} {cs : List Value} (h : w.ownsRow base T size (.slice A n c) n cs) : n ≤ c := by
  rcases h.2 with ⟨h1, h2⟩ | ⟨g, cap, cur, h1, _, _, h4, _⟩
  · omega
  · injection h1 with _ _ e3; omega
theorem mail_one (x : Mail) : ∀ u ∈ x.cs, u.oneCell' = true := fun u hu => by
  simp only [Mail.cs, List.mem_cons, List.not_mem_nil, or_false] at hu
  rcases hu with rfl | rfl | rfl | rfl <;> rfl
theorem mails_one (xs : List Mail) : ∀ u ∈ xs.flatMap Mail.cs, u.oneCell' = true := fun u hu => by
  obtain ⟨x, _, hx⟩ := List.mem_flatMap.1 hu
  exact mail_one x u hx
theorem mails_len (xs : List Mail) : (xs.flatMap Mail.cs).length = xs.length * 4 := flat_length Mail.cs 4 Mail.len xs
theorem app_mail {ops : Array Oper} {rest : List Oper} {o : Oper} {a : Act} {w : World} {Q : Exit → Act → World → Prop} (hgd : o.guard = none) (s x : Operand)
    (ho : o.op = .call { callee := .builtin .append, args := #[s, x], argTypes := #[24, 24] })
    (base n c : Nat) (A : Option Addr) (xs : List Value) (r : Mail) (bv gp : Nat) (hs : a.eval s = .slice A n c) (hx : a.eval x = .slice (some ⟨gp, 0, none⟩) 1 1)
    (hown : w.ownsRow base 36 4 (.slice A n c) n xs) (hv : w.ownsRow bv 36 4 (.slice (some ⟨gp, 0, none⟩) 1 1) 1 r.cs) (hn : n ≤ 1000000) (hb : base ≤ w.heap.size)
    (h : ∀ A' c' w', w'.ownsRow base 36 4 (.slice A' (n + 1) c') (n + 1) (xs ++ r.cs) → w.grownBy w' (Value.ownBlock (.slice A n c)) → wpList Tryd.prog ops Q rest (a.put o.dst (.slice A' (n + 1) c')) w') : wpList Tryd.prog ops Q (o :: rest) a w := by
  obtain ⟨i0, hi, hz0, hz1, hz2⟩ := info_parts infoMail
  refine wpList_append_own w hgd s x 24 ho base 36 i0 (.agg #[.int .i64 0, .int .i64 0, .int .i64 0, .int .i64 0]) 4 32 Tryd.underlying24 hi hz0 hz1 hz2 rfl (by decide) (.slice A n c) n xs hs hown ⟨gp, 0, none⟩ 1 1 r.cs hx rfl
    (fun j u hj => by rw [Addr.add_mid, Nat.zero_add]; exact own_at hv hj) (mail_one r) (by unfold maxLen; omega) (by omega) hb ?_
  intro v' w' h1 h2 h3
  obtain ⟨A', c', rfl⟩ := own_slice h1
  exact h A' c' w' h1 h2
/-- The list so far: n mails, all of them small, b choices taken. -/
structure MSt (w0 : World) (g b : Nat) (A : Option Addr) (n c : Nat) (w : World) : Prop where
  st : ∃ xs : List Mail, DSt w0 g b 36 4 A n c (xs.flatMap Mail.cs) w ∧ ∀ x ∈ xs, MailSm x
  at_ : ∃ q, A = some ⟨q, 0, none⟩
theorem MSt.mono {w0 w : World} {g b b' n c : Nat} {A : Option Addr} (h : MSt w0 g b A n c w) (hb : b ≤ b') : MSt w0 g b' A n c w :=
  ⟨(by obtain ⟨xs, h1, h2⟩ := h.st; exact ⟨xs, h1.mono hb, h2⟩), h.at_⟩
theorem MSt.push {w0 w : World} {g b : Nat} {A' : Option Addr} {n c' : Nat} {xs : List Mail} {r : Mail} (h : DSt w0 g b 36 4 A' (n + 1) c' (xs.flatMap Mail.cs ++ r.cs) w) (hx : ∀ x ∈ xs, MailSm x) (hr : MailSm r) : MSt w0 g b A' (n + 1) c' w := by
  refine ⟨⟨xs ++ [r], by simpa [List.flatMap_append] using h, fun x hm => ?_⟩, ?_⟩
  · rcases List.mem_append.1 hm with hm | hm
    · exact hx x hm
    · simp at hm; subst hm; exact hr
  · obtain ⟨q, cap, hv, _⟩ := h.row.form (by omega)
    injection hv with hv
    exact ⟨q, hv⟩
def slen : Value → Nat
  | .slice _ n _ => n
  | _ => 0
theorem codeSm_any (x : Mail) (hx : MailSm x) (w : World) :
    Calls Tryd.prog 39 #[.agg #[.int .i64 x.Leave, .int .i64 x.From, .int .i64 x.To, .int .i64 x.Arrive]] w fun e w' => e = .returned (.int .i64 (mailCode x)) ∧ Ext w w' := by
  obtain ⟨⟨a1, a2⟩, ⟨a3, a4⟩, ⟨a5, a6⟩, ⟨a7, a8⟩⟩ := hx
  unfold mailCode
  go_enter Tryd.func39, Tryd.ntmps39
  go_wp2
  go_ret
  exact ⟨ret_int (by omega), (by repeat (first | exact Ext.refl _ | assumption | refine Ext.trans ?_ (by assumption) | refine Ext.drew ?_ | refine Ext.drewN ?_ _ | refine Ext.alloc ?_ _))⟩
theorem neqMail (y x : Mail) : ∃ bo : Bool, ∀ w : World, (binOp .neq 36 (.agg #[.int .i64 y.Leave, .int .i64 y.From, .int .i64 y.To, .int .i64 y.Arrive]) (.agg #[.int .i64 x.Leave, .int .i64 x.From, .int .i64 x.To, .int .i64 x.Arrive])).run Tryd.prog w = .ok (.bool bo) w := by
  refine ⟨!(decide (y.Leave = x.Leave) && (decide (y.From = x.From) && (decide (y.To = x.To) && decide (y.Arrive = x.Arrive)))), fun w => ?_⟩
  simp [go_sem]
  (repeat' split) <;> simp_all
theorem drop_cells {xs : List Mail} {k : Nat} {j : Nat} {u : Value} (hk : k ≤ xs.length) (h : ((xs.drop k).flatMap Mail.cs)[j]? = some u) : (xs.flatMap Mail.cs)[k * 4 + j]? = some u := by
  have e1 : xs.flatMap Mail.cs = (xs.take k).flatMap Mail.cs ++ (xs.drop k).flatMap Mail.cs := by rw [← List.flatMap_append, List.take_append_drop]
  rw [e1, List.getElem?_append_right (by rw [mails_len, List.length_take]; omega), mails_len, List.length_take, Nat.min_eq_left hk, Nat.add_sub_cancel_left]
  exact h
theorem take_cells {xs : List Mail} {k : Nat} {j : Nat} {u : Value} (h : ((xs.take k).flatMap Mail.cs)[j]? = some u) : (xs.flatMap Mail.cs)[j]? = some u := by
  have e1 : xs.flatMap Mail.cs = (xs.take k).flatMap Mail.cs ++ (xs.drop k).flatMap Mail.cs := by rw [← List.flatMap_append, List.take_append_drop]
  rw [e1, List.getElem?_append_left ((List.getElem?_eq_some_iff.1 h).1)]
  exact h
set_option maxRecDepth 100000 in
set_option maxHeartbeats 4000000 in
theorem timetable_any (g b : Nat) (w : World) (h : Cur w g b) (hb : b ≤ 100000) :
    Calls Tryd.prog 20 #[.pointer (some ⟨g, 0, none⟩)] w (CurPost g (b + 1000) w (fun v w' => ∃ (A : Option Addr) (n c : Nat), v = .slice A n c ∧ n ≤ 40 ∧ MSt w g (b + 1000) A n c w')) := by
  obtain ⟨i0, hi0, hz0v, hzz1, hzz2⟩ := info_parts infoMail
  have hgw := h.lt
  have o0 := own_empty w w.heap.size 36 4 (Nat.le_refl _)
  have S0 := Lib.hid (show DSt w g b 36 4 (some ⟨w.heap.size, 0, none⟩) 0 0 [] (w.alloc (.cells #[] 36)) from ⟨h.ext ((Ext.refl _).alloc _), o0, grown_of_ext ((Ext.refl _).alloc _), hgw⟩)
  clear o0
  go_enter Tryd.func20, Tryd.ntmps20
  go_wp2_with fail
  refine (pick_any g _ 10 _ S0.out.cur (by omega) (by omega)).mono ?_
  rintro e w0 ⟨v, rfl, ⟨r, rfl, r0, r1⟩, C0, G0⟩
  have S1 := Lib.hid (S0.out.draw C0 G0)
  obtain ⟨r, rfl⟩ : ∃ q : Nat, r = q := ⟨r.toNat, by omega⟩
  have hr10 : r ≤ 10 := by omega
  clear C0 G0 S0 h
  go_wp2
  go_loopw [3, 4] (fun o i wr => ∃ (k : Nat) (A : Option Addr) (n c : Nat), k ≤ 10 ∧ i = .int .i64 k ∧ o = .slice A n c ∧ n + k ≤ 10 ∧ MSt w g (b + 2 + 20 * (10 - k)) A n c wr) (fun _ i _ => (intOf i).toNat)
  case atStart => exact ⟨r, _, 0, 0, hr10, rfl, rfl, by omega, ⟨⟨[], S1.out.mono (by omega), fun x hx => by cases hx⟩, ⟨_, rfl⟩⟩⟩
  case round =>
    obtain ⟨k, A, n, c, hk, rfl, rfl, hn, hst⟩ := hrel
    obtain ⟨⟨xs, hst2, hxs⟩, ⟨q, rfl⟩⟩ := hst
    have N0 := Lib.hid hst2
    have HXS := Lib.hid hxs
    clear hst2 hxs
    by_cases hlt : 0 < k
    · have hkd : decide ((0 : Int) < (k : Int)) = true := by simp; omega
      go_wp2_with fail
      refine (mail_any g _ _ N0.out.cur (by omega)).mono ?_
      rintro e w1 ⟨v, rfl, ⟨x, rfl, hxs⟩, C1, G1⟩
      have HX := Lib.hid hxs
      have N1 := Lib.hid (N0.out.draw C1 G1)
      have NB := Lib.hid (N1.out.step ((Ext.refl w1).alloc (.cells #[.int .i64 x.Leave, .int .i64 x.From, .int .i64 x.To, .int .i64 x.Arrive] 36)))
      have BX := Lib.hid (own_block w1 36 x.cs)
      have hq1 : q < w1.heap.size := (N1.out.row.lt q rfl).2
      have hg1 : g < w1.heap.size := N1.out.cur.lt
      have hx3 : -9223372036854775808 ≤ x.Arrive ∧ x.Arrive ≤ 9223372036854775807 := by obtain ⟨_, _, _, h4⟩ := hxs; unfold smallI at h4; omega
      obtain ⟨hx3, hx4⟩ := hx3
      clear C1 G1 hxs N0 N1
      go_upto_region 6 with fail
      go_cut [23] from 10 to 63 (fun p W => ∃ (bo : Bool), p = .bool bo ∧ DSt w g (b + 2 + 20 * (10 - k) + 12 + 2) 36 4 (some ⟨q, 0, none⟩) n c (xs.flatMap Mail.cs) W ∧ W.ownsRow w1.heap.size 36 4 (.slice (some ⟨w1.heap.size, 0, none⟩) 1 1) 1 x.cs)
      case first =>
        have x0 := own_at BX.out (j := 0) rfl
        have x1 := own_at BX.out (j := 1) rfl
        have x2 := own_at BX.out (j := 2) rfl
        have x3 := own_at BX.out (j := 3) rfl
        go_wp2_with fail
        refine (l9One_any x.Leave x.From x.To x.Arrive _ hx3 hx4).mono ?_
        rintro e w2 ⟨rfl, e2⟩
        have N2 := Lib.hid (NB.out.step e2)
        have B2 := Lib.hid (e2.own BX.out)
        clear x0 x1 x2 x3 e2
        cases hml : mlOk x.Leave x.From x.To x.Arrive
        · go_wp2_with fail
          refine (one_any g _ 30 _ N2.out.cur (by omega) (by omega)).mono ?_
          rintro e w3 ⟨v, rfl, ⟨bo, rfl⟩, C3, G3⟩
          have N3 := Lib.hid (N2.out.draw C3 G3)
          have B3 := Lib.hid (B2.out.kept G3 (Or.inr (by simp [Value.ownBlock]; omega)))
          clear C3 G3
          go_wp2
          go_meet
          exact ⟨_, rfl, N3.out, B3.out⟩
        · go_wp2
          go_meet
          exact ⟨_, rfl, N2.out.mono (by omega), B2.out⟩
      case rest =>
        obtain ⟨bo, rfl, hN, hB⟩ := hcut
        have N3 := Lib.hid hN
        have B3 := Lib.hid hB
        clear hN hB NB BX
        cases bo
        rotate_left
        · go_wp2
          go_roundw
          case rel => exact ⟨k - 1, _, n, c, by omega, by go_num, rfl, by omega, ⟨⟨xs, N3.out.mono (by omega), HXS.out⟩, ⟨q, rfl⟩⟩⟩
          case measure => simp [intOf]; omega
        · go_upto_block 2 with fail
          have hxl : xs.length = n := by have := N3.out.row.1; rw [mails_len] at this; omega
          obtain ⟨wo, rfl⟩ : ∃ wo : World, wo = wc := ⟨_, rfl⟩
          go_cut [6] from 10 to 63 (fun p W => ∃ j : Nat, j ≤ n ∧ p = .int .i64 j ∧ Ext wo W)
          case first =>
            have hxm := HX.out
            go_wp2_with fail
            go_loopw [6] (fun p wr => ∃ j : Nat, j ≤ n ∧ p = .int .i64 j ∧ Ext wo wr) (fun p _ => (intOf p).toNat)
            case atStart => exact ⟨n, Nat.le_refl _, rfl, Ext.refl _⟩
            case round =>
              obtain ⟨j, hj, rfl, he⟩ := hrel
              have x0 := own_at (he.own B3.out) (j := 0) rfl
              have x1 := own_at (he.own B3.out) (j := 1) rfl
              have x2 := own_at (he.own B3.out) (j := 2) rfl
              have x3 := own_at (he.own B3.out) (j := 3) rfl
              have zx : w1.heap.size < wr.heap.size := World.block_lt_of_cell? wr _ x0
              rcases Nat.eq_zero_or_pos j with hj0 | hpos
              · have hd1 : decide (0 < (j : Int)) = false := by simp; omega
                have hd2 : decide (0 < j) = false := by simp; omega
                clear hj0
                go_wp2
                (refine wp_region_ext_lit (by kernel_rfl) (by kernel_rfl) ?_; (repeat (go_big_quiet_step ((fail)))); refine wpQuiet_nil ?_; rintro wq ⟨⟨_, heq⟩, rfl⟩; (try dsimp only))
                go_wp2
                go_meet
                exact ⟨j, by omega, rfl, he.trans heq⟩
              · have hd1 : decide (0 < (j : Int)) = true := by simp; omega
                have hd2 : decide (0 < j) = true := by simp; omega
                obtain ⟨b', off', y, eA, hb', hy, q0, q1, q2, q3⟩ := Mail.at_ (Rd.own (he.own N3.out.row)) hxl (show j - 1 < n by omega)
                injection eA with eA
                injection eA with e1 e2
                subst e1; subst e2
                simp only [Nat.zero_add] at q0 q1 q2 q3
                have hym := HXS.out y (List.mem_of_getElem? hy.out)
                have jz1 : (0 : Int) ≤ (j : Int) - 1 := by omega
                have jz2 : (j : Int) - 1 < (n : Int) := by omega
                by_cases hc : mailCode x < mailCode y
                · have hd3 : decide (mailCode x < mailCode y) = true := by simpa using hc
                  clear hy
                  go_wp2
                  (refine wp_region_ext_lit (by kernel_rfl) (by kernel_rfl) ?_; (repeat (go_big_quiet_step (((go_at_call 39; exact ext_call (codeSm_any _ (by assumption) _)))))); refine wpQuiet_nil ?_; rintro wq ⟨⟨_, heq⟩, rfl⟩; (try dsimp only))
                  go_wp2
                  go_roundw
                  case rel => exact ⟨j - 1, by omega, by go_num, he.trans heq⟩
                  case measure => simp [intOf]; omega
                · have hd3 : decide (mailCode x < mailCode y) = false := by simpa using hc
                  clear hy
                  go_wp2
                  (refine wp_region_ext_lit (by kernel_rfl) (by kernel_rfl) ?_; (repeat (go_big_quiet_step (((go_at_call 39; exact ext_call (codeSm_any _ (by assumption) _)))))); refine wpQuiet_nil ?_; rintro wq ⟨⟨_, heq⟩, rfl⟩; (try dsimp only))
                  go_wp2
                  go_meet
                  exact ⟨j, by omega, rfl, he.trans heq⟩
          case rest =>
            obtain ⟨j, hj, rfl, he⟩ := hcut
            have N4 := Lib.hid (N3.out.step he)
            have B4 := Lib.hid (he.own B3.out)
            clear N3 B3 he
            obtain ⟨wp, rfl⟩ : ∃ wp : World, wp = wc := ⟨_, rfl⟩
            go_upto_region 10 with fail
            go_cut [51] from 10 to 63 (fun p W => ∃ bo : Bool, p = .bool bo ∧ Ext wp W)
            case first =>
              have x0 := own_at B4.out (j := 0) rfl
              have x1 := own_at B4.out (j := 1) rfl
              have x2 := own_at B4.out (j := 2) rfl
              have x3 := own_at B4.out (j := 3) rfl
              have zx : w1.heap.size < wp.heap.size := World.block_lt_of_cell? wp _ x0
              rcases Nat.eq_zero_or_pos j with hj0 | hpos
              · have hd1 : ((j : Int) == 0) = true := by simp; omega
                have hd2 : decide ((j : Int) = 0) = true := by simp; omega
                have hd3 : decide (j = 0) = true := by simp; omega
                clear hj0
                go_wp2
                (refine wp_region_ext_lit (by kernel_rfl) (by kernel_rfl) ?_; (repeat (go_big_quiet_step ((fail)))); refine wpQuiet_nil ?_; rintro wq ⟨⟨_, heq⟩, rfl⟩; (try dsimp only))
                go_wp2
                go_meet
                exact ⟨true, rfl, heq⟩
              · have hd1 : ((j : Int) == 0) = false := by simp; omega
                have hd2 : decide ((j : Int) = 0) = false := by simp; omega
                have hd3 : decide (j = 0) = false := by simp; omega
                obtain ⟨b', off', y, eA, hb', hy, q0, q1, q2, q3⟩ := Mail.at_ (Rd.own N4.out.row) hxl (show j - 1 < n by omega)
                injection eA with eA
                injection eA with e1 e2
                subst e1; subst e2
                simp only [Nat.zero_add] at q0 q1 q2 q3
                have jz1 : (0 : Int) ≤ (j : Int) - 1 := by omega
                have jz2 : (j : Int) - 1 < (n : Int) := by omega
                clear hy
                obtain ⟨bo, hne⟩ := neqMail y x
                go_wp2
                (refine wp_region_ext_lit (by kernel_rfl) (by kernel_rfl) ?_; (repeat (go_big_quiet_step ((fail)))); refine wpQuiet_nil ?_; rintro wq ⟨⟨_, heq⟩, rfl⟩; (try dsimp only))
                go_wp2
                go_meet
                exact ⟨bo, rfl, heq⟩
            case rest =>
              obtain ⟨bo, rfl, he⟩ := hcut
              have N5 := Lib.hid (N4.out.step he)
              have B5 := Lib.hid (he.own B4.out)
              clear N4 B4 he
              cases bo
              · go_wp2
                go_roundw
                case rel => exact ⟨k - 1, _, n, c, by omega, by go_num, rfl, by omega, ⟨⟨xs, N5.out.mono (by omega), HXS.out⟩, ⟨q, rfl⟩⟩⟩
                case measure => simp [intOf]; omega
              · obtain ⟨W9, rfl⟩ : ∃ W9 : World, W9 = wc := ⟨_, rfl⟩
                have c0 := own_at B5.out (j := 0) rfl
                have c1 := own_at B5.out (j := 1) rfl
                have c2 := own_at B5.out (j := 2) rfl
                have c3 := own_at B5.out (j := 3) rfl
                have zx : w1.heap.size < W9.heap.size := World.block_lt_of_cell? W9 _ c0
                have hjc : j ≤ c := by have := own_le N5.out.row; omega
                have jz1 : (0 : Int) ≤ (j : Int) := by omega
                have jz2 : (j : Int) ≤ (n : Int) := by omega
                have HSRC := Lib.hid (fun (i : Nat) (u : Value) (hu : (xs.flatMap Mail.cs)[i]? = some u) => own_at N5.out.row hu)
                obtain ⟨A2, hA2, hsrc⟩ : ∃ A2 : Addr, (if c = j then some (⟨q, 0, none⟩ : Addr) else some ⟨q, j * 4, none⟩) = some A2 ∧ Hid (∀ W, Ext W9 W → ∀ i u, ((xs.drop j).flatMap Mail.cs)[i]? = some u → W.cell? (A2.add i) = some u) := by
                  by_cases hd : c = j
                  · refine ⟨⟨q, 0, none⟩, by simp [hd], fun W he' i u hu => ?_⟩
                    have hnc := own_le N5.out.row
                    have h0 : ((xs.drop j).flatMap Mail.cs).length = 0 := by rw [mails_len, List.length_drop]; omega
                    rw [List.length_eq_zero_iff.1 h0] at hu
                    simp at hu
                  · refine ⟨⟨q, j * 4, none⟩, by simp [hd], fun W he' i u hu => ?_⟩
                    rw [Addr.add_mid]
                    exact he'.cell1 (HSRC.out _ _ (drop_cells (by omega) hu))
                have HS1 := Lib.hid (show ∀ W, Ext W9 W → ∀ i u, ((xs.take j).flatMap Mail.cs)[i]? = some u → W.cell? ((⟨q, 0, none⟩ : Addr).add i) = some u from fun W he' i u hu => by
                  rw [Addr.add_mid, Nat.zero_add]
                  exact he'.cell1 (HSRC.out _ _ (take_cells hu)))
                have HL1 := Lib.hid (show ((xs.take j).flatMap Mail.cs).length = j * 4 by rw [mails_len, List.length_take]; omega)
                have HL2 := Lib.hid (show ((xs.drop j).flatMap Mail.cs).length = (n - j) * 4 by rw [mails_len, List.length_drop]; omega)
                have HE := Lib.hid (show (xs.take j).flatMap Mail.cs ++ x.cs ++ (xs.drop j).flatMap Mail.cs = (xs.take j ++ x :: xs.drop j).flatMap Mail.cs by simp [List.flatMap_append, List.flatMap_cons])
                have hnk : j + 1 + (n - j) = n + 1 := by omega
                clear HSRC
                go_wp2
                refine wp_region_held_drew (S := fun w' => Ext W9 w') (by kernel_rfl) ?_ (fun hHeld => ?_); (focus exact (Ext.refl W9).drew)
                refine wpAnyH_take (i := 1) (v := ?_) rfl (by kernel_rfl) (by kernel_rfl) (by kernel_rfl) (fun _ _ _ h => h) (Or.inl ⟨by rfl, ?_⟩) (by assumption) ?_; rotate_left 1; (focus (intro w hSw; (try dsimp only at hSw); go_simp; (try with_reducible rfl))); (try simp only [Act.put, List.setIfInBounds_toArray, List.set_cons_zero, List.set_cons_succ])
                refine wpAnyH_take (i := 2) (v := ?_) rfl (by kernel_rfl) (by kernel_rfl) (by kernel_rfl) (fun _ _ _ h => h) (Or.inl ⟨by rfl, ?_⟩) (by assumption) ?_; rotate_left 1; (focus (intro w hSw; (try dsimp only at hSw); go_simp; (try with_reducible rfl))); (try simp only [Act.put, List.setIfInBounds_toArray, List.set_cons_zero, List.set_cons_succ])
                refine wpAnyH_take (i := 3) (v := ?_) rfl (by kernel_rfl) (by kernel_rfl) (by kernel_rfl) (fun _ _ _ h => h) (Or.inl ⟨by rfl, ?_⟩) (by assumption) ?_; rotate_left 1; (focus (intro w hSw; (try dsimp only at hSw); go_simp; (try with_reducible rfl))); (try simp only [Act.put, List.setIfInBounds_toArray, List.set_cons_zero, List.set_cons_succ])
                refine wpAnyH_take (i := 8) (v := ?_) rfl (by kernel_rfl) (by kernel_rfl) (by kernel_rfl) (fun _ _ _ h => h) (Or.inl ⟨by rfl, ?_⟩) (by assumption) ?_; rotate_left 1; (focus (intro w hSw; (try dsimp only at hSw); go_simp; (try with_reducible rfl))); (try simp only [Act.put, List.setIfInBounds_toArray, List.set_cons_zero, List.set_cons_succ])
                refine wpAnyH_take (i := 9) (v := ?_) rfl (by kernel_rfl) (by kernel_rfl) (by kernel_rfl) (fun _ _ _ h => h) (Or.inl ⟨by rfl, ?_⟩) (by assumption) ?_; rotate_left 1; (focus (intro w hSw; (try dsimp only at hSw); go_simp; (try with_reducible rfl))); (try simp only [Act.put, List.setIfInBounds_toArray, List.set_cons_zero, List.set_cons_succ])
                refine wpAnyH_take (i := 10) (v := ?_) rfl (by kernel_rfl) (by kernel_rfl) (by kernel_rfl) (fun _ _ _ h => h) (Or.inl ⟨by rfl, ?_⟩) (by assumption) ?_; rotate_left 1; (focus (intro w hSw; (try dsimp only at hSw); go_simp; (try with_reducible rfl))); (try simp only [Act.put, List.setIfInBounds_toArray, List.set_cons_zero, List.set_cons_succ])
                refine wpAnyH_take (i := 5) (v := ?_) rfl (by kernel_rfl) (by kernel_rfl) (by kernel_rfl) (fun _ _ _ h => h) (Or.inl ⟨by rfl, ?_⟩) (by assumption) ?_; rotate_left 1; (focus (intro w hSw; (try dsimp only at hSw); have yc0 := hSw.cell1 c0; have yc1 := hSw.cell1 c1; have yc2 := hSw.cell1 c2; have yc3 := hSw.cell1 c3; go_simp; (try with_reducible rfl))); (try simp only [Act.put, List.setIfInBounds_toArray, List.set_cons_zero, List.set_cons_succ])
                have X0 := Lib.hid (show Ext W9 W9.drew from (Ext.refl W9).drew)
                clear hHeld c0 c1 c2 c3
                refine wpAnyH_ready (rs := [0, 6]) (by kernel_rfl) (by simp) ?_; refine AllReadyH.cons rfl (fun K hK => ?_) (AllReadyH.cons rfl (fun K hK => ?_) (AllReadyH.nil))
                focus
                  have X1 := Lib.hid (X0.out.alloc (.cells #[] 36))
                  go_simp; (try simp only [Act.put, List.setIfInBounds_toArray, List.set_cons_zero, List.set_cons_succ]); (try go_wp2_with fail); refine hK.out _ _ ?_ (fun hHeld => ?_); (focus exact X1.out); clear hK K; (try simp only [Act.put, List.setIfInBounds_toArray, List.set_cons_zero, List.set_cons_succ])
                  have bx1 := own_empty (W9.drew) W9.heap.size 36 4 (X0.out.size)
                  (try simp only [World.size_alloc, World.size_drew] at bx1)
                  have el1 := Lib.hid bx1
                  clear bx1
                  refine wpAnyH_ready (rs := [4, 6]) (by kernel_rfl) (by simp) ?_; refine AllReadyH.cons rfl (fun K hK => ?_) (AllReadyH.cons rfl (fun K hK => ?_) (AllReadyH.nil))
                  focus
                    refine step_app_own rfl (.tmp 52) (.tmp 55) 24 rfl W9.heap.size 36 i0 (.agg #[.int .i64 0, .int .i64 0, .int .i64 0, .int .i64 0]) 4 32 Tryd.underlying24 hi0 hz0v hzz1 hzz2 rfl (by decide) (.slice (some ⟨W9.heap.size, 0, none⟩) 0 0) 0 [] rfl el1.out ⟨q, 0, none⟩ j c ((xs.take j).flatMap Mail.cs) rfl HL1.out (HS1.out _ X1.out) (mails_one _) (by unfold maxLen; omega) (by omega) X1.out.size 56 rfl j (Nat.zero_add j) ((xs.take j).flatMap Mail.cs) (List.nil_append _) ?_; intro Ap2 cp2 w2 op2 gp2; have X2 := Lib.hid (X1.out.grown gp2 (fun q hq => (el1.out.lt q hq).1)); have el2 := Lib.hid op2; clear op2 gp2; (try simp only [Act.put, List.setIfInBounds_toArray, List.set_cons_zero, List.set_cons_succ]); refine hK.out _ _ ?_ (fun hHeld => ?_); (focus exact X2.out); clear hK K; (try simp only [Act.put, List.setIfInBounds_toArray, List.set_cons_zero, List.set_cons_succ])
                    have X3 := Lib.hid (X2.out.alloc (.cells #[.int .i64 x.Leave, .int .i64 x.From, .int .i64 x.To, .int .i64 x.Arrive] 36))
                    refine wpAnyH_ready (rs := [6]) (by kernel_rfl) (by simp) ?_; refine AllReadyH.cons rfl (fun K hK => ?_) AllReadyH.nil; go_simp; (try simp only [Act.put, List.setIfInBounds_toArray, List.set_cons_zero, List.set_cons_succ]); (try go_wp2_with fail); refine hK.out _ _ ?_ (fun hHeld => ?_); (focus exact X3.out); clear hK K; (try simp only [Act.put, List.setIfInBounds_toArray, List.set_cons_zero, List.set_cons_succ])
                    have bx3 := own_block (w2) 36 x.cs
                    (try simp only [World.size_alloc, World.size_drew] at bx3)
                    have el3 := Lib.hid (((Ext.refl (w2)).alloc (.cells #[.int .i64 x.Leave, .int .i64 x.From, .int .i64 x.To, .int .i64 x.Arrive] 36)).own el2.out)
                    have pr3 := Lib.hid bx3
                    clear bx3
                    refine wpAnyH_ready (rs := [7]) (by kernel_rfl) (by simp) ?_; refine AllReadyH.cons rfl (fun K hK => ?_) AllReadyH.nil; refine step_app_own rfl (.tmp 56) (.tmp 58) 24 rfl W9.heap.size 36 i0 (.agg #[.int .i64 0, .int .i64 0, .int .i64 0, .int .i64 0]) 4 32 Tryd.underlying24 hi0 hz0v hzz1 hzz2 rfl (by decide) (.slice Ap2 j cp2) j ((xs.take j).flatMap Mail.cs) rfl el3.out ⟨w2.heap.size, 0, none⟩ 1 1 x.cs rfl rfl (fun j u hj => by rw [Addr.add_mid, Nat.zero_add]; exact own_at pr3.out hj) (mail_one x) (by unfold maxLen; omega) (by omega) X3.out.size 59 rfl (j + 1) rfl ((xs.take j).flatMap Mail.cs ++ x.cs) rfl ?_; intro Ap4 cp4 w4 op4 gp4; have X4 := Lib.hid (X3.out.grown gp4 (fun q hq => (el3.out.lt q hq).1)); have el4 := Lib.hid op4; clear op4 gp4; (try simp only [Act.put, List.setIfInBounds_toArray, List.set_cons_zero, List.set_cons_succ]); refine hK.out _ _ ?_ (fun hHeld => ?_); (focus exact X4.out); clear hK K; (try simp only [Act.put, List.setIfInBounds_toArray, List.set_cons_zero, List.set_cons_succ])
                    refine wpAnyH_ready (rs := [11]) (by kernel_rfl) (by simp) ?_; refine AllReadyH.cons rfl (fun K hK => ?_) AllReadyH.nil; refine step_app_own rfl (.tmp 59) (.tmp 62) 24 rfl W9.heap.size 36 i0 (.agg #[.int .i64 0, .int .i64 0, .int .i64 0, .int .i64 0]) 4 32 Tryd.underlying24 hi0 hz0v hzz1 hzz2 rfl (by decide) (.slice Ap4 (j + 1) cp4) (j + 1) ((xs.take j).flatMap Mail.cs ++ x.cs) rfl el4.out A2 (n - j) (c - j) ((xs.drop j).flatMap Mail.cs) rfl HL2.out (hsrc.out _ X4.out) (mails_one _) (by unfold maxLen; omega) (by omega) X4.out.size 63 rfl (n + 1) hnk ((xs.take j ++ x :: xs.drop j).flatMap Mail.cs) HE.out ?_; intro A9 c9 W10 op5 gp5; have X5 := Lib.hid (X4.out.grown gp5 (fun q hq => (el4.out.lt q hq).1)); have el5 := Lib.hid op5; clear op5 gp5; (try simp only [Act.put, List.setIfInBounds_toArray, List.set_cons_zero, List.set_cons_succ]); refine hK.out _ _ ?_ (fun hHeld => ?_); (focus exact X5.out); clear hK K; (try simp only [Act.put, List.setIfInBounds_toArray, List.set_cons_zero, List.set_cons_succ])
                    refine wpAnyH_take (i := 12) (v := ?_) rfl (by kernel_rfl) (by kernel_rfl) (by kernel_rfl) (fun _ _ _ h => h) (Or.inl ⟨by rfl, ?_⟩) (by assumption) ?_; rotate_left 1; (focus (intro w hSw; (try dsimp only at hSw); go_simp; (try with_reducible rfl))); (try simp only [Act.put, List.setIfInBounds_toArray, List.set_cons_zero, List.set_cons_succ])
                    refine wpAnyH_done (by kernel_rfl) ?_ _
                    have OD := Lib.hid el5.out
                    have X10 := Lib.hid X5.out
                  rotate_left 1
                  focus
                    have X2 := Lib.hid (X1.out.alloc (.cells #[.int .i64 x.Leave, .int .i64 x.From, .int .i64 x.To, .int .i64 x.Arrive] 36))
                    go_simp; (try simp only [Act.put, List.setIfInBounds_toArray, List.set_cons_zero, List.set_cons_succ]); (try go_wp2_with fail); refine hK.out _ _ ?_ (fun hHeld => ?_); (focus exact X2.out); clear hK K; (try simp only [Act.put, List.setIfInBounds_toArray, List.set_cons_zero, List.set_cons_succ])
                    have bx2 := own_block ((W9.drew.alloc (.cells #[] 36))) 36 x.cs
                    (try simp only [World.size_alloc, World.size_drew] at bx2)
                    have el2 := Lib.hid (((Ext.refl ((W9.drew.alloc (.cells #[] 36)))).alloc (.cells #[.int .i64 x.Leave, .int .i64 x.From, .int .i64 x.To, .int .i64 x.Arrive] 36)).own el1.out)
                    have pr2 := Lib.hid bx2
                    clear bx2
                    refine wpAnyH_ready (rs := [4]) (by kernel_rfl) (by simp) ?_; refine AllReadyH.cons rfl (fun K hK => ?_) AllReadyH.nil; refine step_app_own rfl (.tmp 52) (.tmp 55) 24 rfl W9.heap.size 36 i0 (.agg #[.int .i64 0, .int .i64 0, .int .i64 0, .int .i64 0]) 4 32 Tryd.underlying24 hi0 hz0v hzz1 hzz2 rfl (by decide) (.slice (some ⟨W9.heap.size, 0, none⟩) 0 0) 0 [] rfl el2.out ⟨q, 0, none⟩ j c ((xs.take j).flatMap Mail.cs) rfl HL1.out (HS1.out _ X2.out) (mails_one _) (by unfold maxLen; omega) (by omega) X2.out.size 56 rfl j (Nat.zero_add j) ((xs.take j).flatMap Mail.cs) (List.nil_append _) ?_; intro Ap3 cp3 w3 op3 gp3; have X3 := Lib.hid (X2.out.grown gp3 (fun q hq => (el2.out.lt q hq).1)); have pr3 := Lib.hid (pr2.out.kept gp3 (Or.inr (by simp [Value.ownBlock]; try omega))); have el3 := Lib.hid op3; clear op3 gp3; (try simp only [Act.put, List.setIfInBounds_toArray, List.set_cons_zero, List.set_cons_succ]); refine hK.out _ _ ?_ (fun hHeld => ?_); (focus exact X3.out); clear hK K; (try simp only [Act.put, List.setIfInBounds_toArray, List.set_cons_zero, List.set_cons_succ])
                    refine wpAnyH_ready (rs := [7]) (by kernel_rfl) (by simp) ?_; refine AllReadyH.cons rfl (fun K hK => ?_) AllReadyH.nil; refine step_app_own rfl (.tmp 56) (.tmp 58) 24 rfl W9.heap.size 36 i0 (.agg #[.int .i64 0, .int .i64 0, .int .i64 0, .int .i64 0]) 4 32 Tryd.underlying24 hi0 hz0v hzz1 hzz2 rfl (by decide) (.slice Ap3 j cp3) j ((xs.take j).flatMap Mail.cs) rfl el3.out ⟨W9.heap.size + 1, 0, none⟩ 1 1 x.cs rfl rfl (fun j u hj => by rw [Addr.add_mid, Nat.zero_add]; exact own_at pr3.out hj) (mail_one x) (by unfold maxLen; omega) (by omega) X3.out.size 59 rfl (j + 1) rfl ((xs.take j).flatMap Mail.cs ++ x.cs) rfl ?_; intro Ap4 cp4 w4 op4 gp4; have X4 := Lib.hid (X3.out.grown gp4 (fun q hq => (el3.out.lt q hq).1)); have el4 := Lib.hid op4; clear op4 gp4; (try simp only [Act.put, List.setIfInBounds_toArray, List.set_cons_zero, List.set_cons_succ]); refine hK.out _ _ ?_ (fun hHeld => ?_); (focus exact X4.out); clear hK K; (try simp only [Act.put, List.setIfInBounds_toArray, List.set_cons_zero, List.set_cons_succ])
                    refine wpAnyH_ready (rs := [11]) (by kernel_rfl) (by simp) ?_; refine AllReadyH.cons rfl (fun K hK => ?_) AllReadyH.nil; refine step_app_own rfl (.tmp 59) (.tmp 62) 24 rfl W9.heap.size 36 i0 (.agg #[.int .i64 0, .int .i64 0, .int .i64 0, .int .i64 0]) 4 32 Tryd.underlying24 hi0 hz0v hzz1 hzz2 rfl (by decide) (.slice Ap4 (j + 1) cp4) (j + 1) ((xs.take j).flatMap Mail.cs ++ x.cs) rfl el4.out A2 (n - j) (c - j) ((xs.drop j).flatMap Mail.cs) rfl HL2.out (hsrc.out _ X4.out) (mails_one _) (by unfold maxLen; omega) (by omega) X4.out.size 63 rfl (n + 1) hnk ((xs.take j ++ x :: xs.drop j).flatMap Mail.cs) HE.out ?_; intro A9 c9 W10 op5 gp5; have X5 := Lib.hid (X4.out.grown gp5 (fun q hq => (el4.out.lt q hq).1)); have el5 := Lib.hid op5; clear op5 gp5; (try simp only [Act.put, List.setIfInBounds_toArray, List.set_cons_zero, List.set_cons_succ]); refine hK.out _ _ ?_ (fun hHeld => ?_); (focus exact X5.out); clear hK K; (try simp only [Act.put, List.setIfInBounds_toArray, List.set_cons_zero, List.set_cons_succ])
                    refine wpAnyH_take (i := 12) (v := ?_) rfl (by kernel_rfl) (by kernel_rfl) (by kernel_rfl) (fun _ _ _ h => h) (Or.inl ⟨by rfl, ?_⟩) (by assumption) ?_; rotate_left 1; (focus (intro w hSw; (try dsimp only at hSw); go_simp; (try with_reducible rfl))); (try simp only [Act.put, List.setIfInBounds_toArray, List.set_cons_zero, List.set_cons_succ])
                    refine wpAnyH_done (by kernel_rfl) ?_ _
                    have OD := Lib.hid el5.out
                    have X10 := Lib.hid X5.out
                  rotate_left 1
                rotate_left 2
                focus
                  have X1 := Lib.hid (X0.out.alloc (.cells #[.int .i64 x.Leave, .int .i64 x.From, .int .i64 x.To, .int .i64 x.Arrive] 36))
                  go_simp; (try simp only [Act.put, List.setIfInBounds_toArray, List.set_cons_zero, List.set_cons_succ]); (try go_wp2_with fail); refine hK.out _ _ ?_ (fun hHeld => ?_); (focus exact X1.out); clear hK K; (try simp only [Act.put, List.setIfInBounds_toArray, List.set_cons_zero, List.set_cons_succ])
                  have bx1 := own_block (W9.drew) 36 x.cs
                  (try simp only [World.size_alloc, World.size_drew] at bx1)
                  have pr1 := Lib.hid bx1
                  clear bx1
                  have X2 := Lib.hid (X1.out.alloc (.cells #[] 36))
                  refine wpAnyH_ready (rs := [0]) (by kernel_rfl) (by simp) ?_; refine AllReadyH.cons rfl (fun K hK => ?_) AllReadyH.nil; go_simp; (try simp only [Act.put, List.setIfInBounds_toArray, List.set_cons_zero, List.set_cons_succ]); (try go_wp2_with fail); refine hK.out _ _ ?_ (fun hHeld => ?_); (focus exact X2.out); clear hK K; (try simp only [Act.put, List.setIfInBounds_toArray, List.set_cons_zero, List.set_cons_succ])
                  have bx2 := own_empty ((W9.drew.alloc (.cells #[.int .i64 x.Leave, .int .i64 x.From, .int .i64 x.To, .int .i64 x.Arrive] 36))) W9.heap.size 36 4 (X1.out.size)
                  (try simp only [World.size_alloc, World.size_drew] at bx2)
                  have pr2 := Lib.hid (((Ext.refl ((W9.drew.alloc (.cells #[.int .i64 x.Leave, .int .i64 x.From, .int .i64 x.To, .int .i64 x.Arrive] 36)))).alloc (.cells #[] 36)).own pr1.out)
                  have el2 := Lib.hid bx2
                  clear bx2
                  refine wpAnyH_ready (rs := [4]) (by kernel_rfl) (by simp) ?_; refine AllReadyH.cons rfl (fun K hK => ?_) AllReadyH.nil; refine step_app_own rfl (.tmp 52) (.tmp 55) 24 rfl W9.heap.size 36 i0 (.agg #[.int .i64 0, .int .i64 0, .int .i64 0, .int .i64 0]) 4 32 Tryd.underlying24 hi0 hz0v hzz1 hzz2 rfl (by decide) (.slice (some ⟨W9.heap.size + 1, 0, none⟩) 0 0) 0 [] rfl el2.out ⟨q, 0, none⟩ j c ((xs.take j).flatMap Mail.cs) rfl HL1.out (HS1.out _ X2.out) (mails_one _) (by unfold maxLen; omega) (by omega) X2.out.size 56 rfl j (Nat.zero_add j) ((xs.take j).flatMap Mail.cs) (List.nil_append _) ?_; intro Ap3 cp3 w3 op3 gp3; have X3 := Lib.hid (X2.out.grown gp3 (fun q hq => (el2.out.lt q hq).1)); have pr3 := Lib.hid (pr2.out.kept gp3 (Or.inr (by simp [Value.ownBlock]; try omega))); have el3 := Lib.hid op3; clear op3 gp3; (try simp only [Act.put, List.setIfInBounds_toArray, List.set_cons_zero, List.set_cons_succ]); refine hK.out _ _ ?_ (fun hHeld => ?_); (focus exact X3.out); clear hK K; (try simp only [Act.put, List.setIfInBounds_toArray, List.set_cons_zero, List.set_cons_succ])
                  refine wpAnyH_ready (rs := [7]) (by kernel_rfl) (by simp) ?_; refine AllReadyH.cons rfl (fun K hK => ?_) AllReadyH.nil; refine step_app_own rfl (.tmp 56) (.tmp 58) 24 rfl W9.heap.size 36 i0 (.agg #[.int .i64 0, .int .i64 0, .int .i64 0, .int .i64 0]) 4 32 Tryd.underlying24 hi0 hz0v hzz1 hzz2 rfl (by decide) (.slice Ap3 j cp3) j ((xs.take j).flatMap Mail.cs) rfl el3.out ⟨W9.heap.size, 0, none⟩ 1 1 x.cs rfl rfl (fun j u hj => by rw [Addr.add_mid, Nat.zero_add]; exact own_at pr3.out hj) (mail_one x) (by unfold maxLen; omega) (by omega) X3.out.size 59 rfl (j + 1) rfl ((xs.take j).flatMap Mail.cs ++ x.cs) rfl ?_; intro Ap4 cp4 w4 op4 gp4; have X4 := Lib.hid (X3.out.grown gp4 (fun q hq => (el3.out.lt q hq).1)); have el4 := Lib.hid op4; clear op4 gp4; (try simp only [Act.put, List.setIfInBounds_toArray, List.set_cons_zero, List.set_cons_succ]); refine hK.out _ _ ?_ (fun hHeld => ?_); (focus exact X4.out); clear hK K; (try simp only [Act.put, List.setIfInBounds_toArray, List.set_cons_zero, List.set_cons_succ])
                  refine wpAnyH_ready (rs := [11]) (by kernel_rfl) (by simp) ?_; refine AllReadyH.cons rfl (fun K hK => ?_) AllReadyH.nil; refine step_app_own rfl (.tmp 59) (.tmp 62) 24 rfl W9.heap.size 36 i0 (.agg #[.int .i64 0, .int .i64 0, .int .i64 0, .int .i64 0]) 4 32 Tryd.underlying24 hi0 hz0v hzz1 hzz2 rfl (by decide) (.slice Ap4 (j + 1) cp4) (j + 1) ((xs.take j).flatMap Mail.cs ++ x.cs) rfl el4.out A2 (n - j) (c - j) ((xs.drop j).flatMap Mail.cs) rfl HL2.out (hsrc.out _ X4.out) (mails_one _) (by unfold maxLen; omega) (by omega) X4.out.size 63 rfl (n + 1) hnk ((xs.take j ++ x :: xs.drop j).flatMap Mail.cs) HE.out ?_; intro A9 c9 W10 op5 gp5; have X5 := Lib.hid (X4.out.grown gp5 (fun q hq => (el4.out.lt q hq).1)); have el5 := Lib.hid op5; clear op5 gp5; (try simp only [Act.put, List.setIfInBounds_toArray, List.set_cons_zero, List.set_cons_succ]); refine hK.out _ _ ?_ (fun hHeld => ?_); (focus exact X5.out); clear hK K; (try simp only [Act.put, List.setIfInBounds_toArray, List.set_cons_zero, List.set_cons_succ])
                  refine wpAnyH_take (i := 12) (v := ?_) rfl (by kernel_rfl) (by kernel_rfl) (by kernel_rfl) (fun _ _ _ h => h) (Or.inl ⟨by rfl, ?_⟩) (by assumption) ?_; rotate_left 1; (focus (intro w hSw; (try dsimp only at hSw); go_simp; (try with_reducible rfl))); (try simp only [Act.put, List.setIfInBounds_toArray, List.set_cons_zero, List.set_cons_succ])
                  refine wpAnyH_done (by kernel_rfl) ?_ _
                  have OD := Lib.hid el5.out
                  have X10 := Lib.hid X5.out
                rotate_left 1
                all_goals
                  (try simp only [List.getElem_toArray, List.getElem_cons_succ, List.getElem_cons_zero, List.setIfInBounds_toArray, List.set_cons_succ, List.set_cons_zero])
                  have h6 := own_low' OD.out (show w.heap.size ≤ W9.heap.size from N5.out.sz_le)
                  have NF := Lib.hid (show DSt w g (b + 2 + 20 * (10 - k) + 12 + 2) 36 4 A9 (n + 1) c9 ((xs.take j ++ x :: xs.drop j).flatMap Mail.cs) W10 from ⟨N5.out.cur.ext X10.out, h6, grown_trans N5.out.grown (grown_of_ext X10.out), N5.out.hg⟩)
                  have hA9 : ∃ q9, A9 = some ⟨q9, 0, none⟩ := by
                    obtain ⟨q9, cap, hv, _⟩ := h6.form (by omega)
                    injection hv with hv
                    exact ⟨q9, hv⟩
                  have HM := Lib.hid (show ∀ y ∈ xs.take j ++ x :: xs.drop j, MailSm y from fun y hy => by
                    rcases List.mem_append.1 hy with hy | hy
                    · exact HXS.out y (List.mem_of_mem_take hy)
                    · rcases List.mem_cons.1 hy with rfl | hy
                      · exact HX.out
                      · exact HXS.out y (List.mem_of_mem_drop hy))
                  go_wp2
                  go_roundw
                  case rel => exact ⟨k - 1, A9, n + 1, c9, by omega, by go_num, rfl, by omega, ⟨⟨_, NF.out.mono (by omega), HM.out⟩, hA9⟩⟩
                  case measure => simp [intOf]; omega
    · obtain rfl : k = 0 := by omega
      go_wp2_with fail
      refine (pick_any g _ 32 _ N0.out.cur (by omega) (by omega)).mono ?_
      rintro e w1 ⟨v, rfl, ⟨r, rfl, r0, r1⟩, C1, G1⟩
      have N1 := Lib.hid (N0.out.draw C1 G1)
      clear C1 G1 N0
      by_cases e0 : r = 0
      · subst e0
        go_wp2_with fail
        refine (mail_any g _ _ N1.out.cur (by omega)).mono ?_
        rintro e w2 ⟨v, rfl, ⟨x, rfl, hxs⟩, C2, G2⟩
        have HX := Lib.hid hxs
        have N2 := Lib.hid ((N1.out.draw C2 G2).step ((Ext.refl w2).alloc (.cells #[.int .i64 x.Leave, .int .i64 x.From, .int .i64 x.To, .int .i64 x.Arrive] 36)))
        clear C2 G2 N1 hxs
        go_wp2_with (at_builtin; refine app_mail rfl (.tmp 68) (.tmp 71) rfl w.heap.size n c (some ⟨q, 0, none⟩) (xs.flatMap Mail.cs) x w2.heap.size w2.heap.size rfl rfl N2.out.row (own_block w2 36 x.cs) (by omega) N2.out.sz_le ?_; intro A5 c5 w5 op gp)
        have N5 := Lib.hid (N2.out.app op gp)
        go_ret
        exact ⟨_, rfl, ⟨A5, n + 1, c5, rfl, by omega, (MSt.push N5.out HXS.out HX.out).mono (by omega)⟩, N5.out.cur.mono (by omega), N5.out.grown⟩
      · have d0 : (r == 0) = false := by simpa using e0
        have d0' : decide (r = 0) = false := by simpa using e0
        by_cases e1 : r = 1
        · subst e1
          go_wp2_with fail
          go_loopw [3] (fun o wr => ∃ (A : Option Addr) (n c : Nat), o = .slice A n c ∧ n ≤ 22 ∧ MSt w g (b + 300 + 2 * n) A n c wr) (fun o _ => 40 - slen o)
          case atStart => exact ⟨_, n, c, rfl, by omega, ⟨⟨xs, N1.out.mono (by omega), HXS.out⟩, ⟨q, rfl⟩⟩⟩
          case round =>
            obtain ⟨A, n, c, rfl, hn, hst⟩ := hrel
            obtain ⟨⟨xs, hst2, hxs⟩, ⟨q, rfl⟩⟩ := hst
            have N0 := Lib.hid hst2
            have HXS := Lib.hid hxs
            clear hst2 hxs N1
            go_wp2_with fail
            refine (pick_any g _ 2 _ N0.out.cur (by omega) (by omega)).mono ?_
            rintro e w2 ⟨v, rfl, ⟨t, rfl, t0, t1⟩, C2, G2⟩
            have N2 := Lib.hid (N0.out.draw C2 G2)
            clear C2 G2 N0
            have ht : t ≤ 1 := by omega
            by_cases hlt2 : (n : Int) < 20 + t
            · have hd2 : decide ((n : Int) < 20 + t) = true := by simpa using hlt2
              have OBJ := (Ext.refl w2).alloc (.cells #[.int .i64 (100 + (n : Int)), .int .i64 ((n : Int) % 3), .int .i64 3, .int .i64 200] 36)
              have N3 := Lib.hid (N2.out.step OBJ)
              clear OBJ
              go_wp2_with (at_builtin; refine app_mail rfl (.tmp 81) (.tmp 89) rfl w.heap.size n c (some ⟨q, 0, none⟩) (xs.flatMap Mail.cs) ⟨100 + (n : Int), (n : Int) % 3, 3, 200⟩ w2.heap.size w2.heap.size rfl rfl N3.out.row (own_block w2 36 [.int .i64 (100 + (n : Int)), .int .i64 ((n : Int) % 3), .int .i64 3, .int .i64 200]) (by omega) N3.out.sz_le ?_; intro A5 c5 w5 op gp)
              have N5 := Lib.hid (N3.out.app op gp)
              clear op gp
              go_roundw
              case rel => exact ⟨A5, n + 1, c5, rfl, by omega, (MSt.push N5.out HXS.out ⟨smI (100 + (n : Int)) (by omega) (by omega), smI ((n : Int) % 3) (by omega) (by omega), smI 3 (by omega) (by omega), smI 200 (by omega) (by omega)⟩).mono (by omega)⟩
              case measure => simp [slen]; omega
            · have hd2 : decide ((n : Int) < 20 + t) = false := by simpa using hlt2
              go_wp2
              go_ret
              exact ⟨_, rfl, ⟨_, n, c, rfl, by omega, ⟨⟨xs, N2.out.mono (by omega), HXS.out⟩, ⟨q, rfl⟩⟩⟩, N2.out.cur.mono (by omega), N2.out.grown⟩
        · have d1 : (r == 1) = false := by simpa using e1
          have d1' : decide (r = 1) = false := by simpa using e1
          go_wp2
          go_ret
          exact ⟨_, rfl, ⟨_, n, c, rfl, by omega, ⟨⟨xs, N1.out.mono (by omega), HXS.out⟩, ⟨q, rfl⟩⟩⟩, N1.out.cur.mono (by omega), N1.out.grown⟩
end Go.Proofs.YtmgpdenofkloeaaDoor
