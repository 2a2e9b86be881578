/- The draws of the statement on combs. -/
import Derived.Test.YtoafaejhabjlnaaDoorDrawCombs
namespace Go.Proofs.YtoafaejhabjlnaaDoor
open Go.RowKit
set_option linter.unusedVariables false
set_option linter.unusedSimpArgs false
attribute [local go_sem] ExtOf.cell

theorem quo11 {r : Int} (r0 : 0 ≤ r) (r1 : r < 24) : ((4 + r.tdiv 11 = 4 ∧ r.tdiv 11 = 0 ∧ r / 11 = 0) ∨ (4 + r.tdiv 11 = 5 ∧ r.tdiv 11 = 1 ∧ r / 11 = 1) ∨ (4 + r.tdiv 11 = 6 ∧ r.tdiv 11 = 2 ∧ r / 11 = 2)) := by
  rw [Int.tdiv_eq_ediv_of_nonneg r0]; omega
set_option maxRecDepth 100000 in
set_option maxHeartbeats 8000000 in
theorem DrawMatchCombs_any (A : Option Addr) (n c : Nat) (l : List Int) (w : World) (h : CodeOk w A n l) :
    Calls Tryd.prog 5 #[.slice A n c] w fun e w' => ∃ (B : Option Addr) (m mc : Nat) (wd hi off : Int) (xs : List Comb), e = .returned (.tuple #[.slice B m mc, .int .i64 wd, .int .i64 hi, .int .i64 off]) ∧ m ≤ 40 ∧ CombL w' B m xs ∧ Ext w w' := by
  have K := Lib.hid (h.cur c)
  clear h
  go_enter Tryd.func5, Tryd.ntmps5
  go_wp2_with fail
  refine (combs5_any _ _ _ K.out (by omega)).mono ?_
  rintro e w1 ⟨v, rfl, ⟨B, m, mc, xs, rfl, hm, hst⟩, C1, G1⟩
  have N1 := Lib.hid hst
  clear hst C1 G1
  have EL := (Ext.refl w1).alloc (.cells (ints [0, 10, 25, 100, -1, 101]).toArray 3)
  have R0 := Lib.hid (own_list w1 3 [0, 10, 25, 100, -1, 101])
  have N2 := Lib.hid (N1.out.step EL)
  have hgl : w.heap.size < w1.heap.size := by have := N1.out.cur.lt; exact this
  clear EL N1 K
  go_wp2_with fail
  refine (pick_any w.heap.size _ 24 _ N2.out.cur (by omega) (by omega)).mono ?_
  rintro e w2 ⟨v, rfl, ⟨r, rfl, r0, r1⟩, C2, G2⟩
  have R1 := Lib.hid (Rd.own (R0.out.kept G2 (Or.inr (by simp [Value.ownBlock]; omega))))
  have N3 := Lib.hid (N2.out.draw C2 G2)
  have hr3 := quo11 r0 (by omega)
  clear R0 G2 C2 N2 r0 r1
  rcases hr3 with ⟨d0, d1, d2⟩ | ⟨d0, d1, d2⟩ | ⟨d0, d1, d2⟩
  · go_wp2_with fail
    refine (among_any w.heap.size _ (some ⟨w1.heap.size, 0, none⟩) 4 6 [0, 10, 25, 100] (-1) 101 _ N3.out.cur (by decide) (by omega) (by decide) (by decide) (Rd.take (m := 4) R1.out (by decide)) (Off.ne (by omega))).mono ?_
    rintro e w3 ⟨v, rfl, ⟨off, rfl, u1, u2⟩, C4, G4⟩
    have N4 := Lib.hid (N3.out.draw C4 G4)
    clear C4 G4 N3 R1 d0 d1 d2 hgl
    by_cases hm0 : 0 < m
    · have y1 : decide ((0 : Int) < (m : Int)) = true := by simp; omega
      have y2 : decide (0 < m) = true := by simp; omega
      go_wp2_with fail
      refine (one_any w.heap.size _ 2 _ N4.out.cur (by omega) (by omega)).mono ?_
      rintro e w4 ⟨v, rfl, ⟨ok, rfl⟩, C5, G5⟩
      have N5 := Lib.hid (N4.out.draw C5 G5)
      clear C5 G5 N4
      cases ok
      · go_wp2_with fail
        refine (ask5_any w.heap.size _ _ N5.out.cur (by omega)).mono ?_
        rintro e w5 ⟨v, rfl, ⟨a, rfl, a1, a2⟩, C6, G6⟩
        have N6 := Lib.hid (N5.out.draw C6 G6)
        clear C6 G6 N5
        go_wp2_with fail
        refine (ask5_any w.heap.size _ _ N6.out.cur (by omega)).mono ?_
        rintro e w6 ⟨v, rfl, ⟨b, rfl, b1, b2⟩, C7, G7⟩
        have N7 := Lib.hid (N6.out.draw C7 G7)
        clear C7 G7 N6
        have EF := Lib.hid (ext_of_cur N7.out.grown)
        go_wp2
        exact bodyPost_ret (v := .tuple #[.slice B m mc, .int .i64 a, .int .i64 b, .int .i64 off]) (by simp [results, Tryd.results5, go_sem]) rfl ⟨B, m, mc, a, b, off, xs, rfl, hm, N7.out.combL hm, EF.out⟩
      · go_wp2_with fail
        refine (pick_any w.heap.size _ m _ N5.out.cur (by omega) (by omega)).mono ?_
        rintro e w5 ⟨v, rfl, ⟨p, rfl, p0, p1⟩, C6, G6⟩
        have N6 := Lib.hid (N5.out.draw C6 G6)
        clear C6 G6 N5
        have hgb : w.heap.size < w5.heap.size := N6.out.cur.lt
        obtain ⟨p, rfl⟩ : ∃ q : Nat, p = q := ⟨p.toNat, by omega⟩
        have hpm : p < m := by omega
        have hpm2 : (p : Int) < (m : Int) := by omega
        obtain ⟨bb, offb, x, eA, hbb, hx, g0, g1, g2, g3⟩ := (N6.out.combL hm).at_ hpm
        have OB := Lib.hid (own_block w5 32 x.cs)
        have N7 := Lib.hid (N6.out.step ((Ext.refl w5).alloc (.cells #[.int .i64 x.Id, .int .i64 x.Wide, .int .i64 x.High, .bool x.Line] 32)))
        subst eA
        clear p0 p1 hx N6
        go_wp2_with fail
        refine (one_any w.heap.size _ 2 _ N7.out.cur (by omega) (by omega)).mono ?_
        rintro e w6 ⟨v, rfl, ⟨ok, rfl⟩, C8, G8⟩
        skip
        have OB6 := Lib.hid (OB.out.kept G8 (Or.inr (by simp [Value.ownBlock]; omega)))
        have x1 := own_at OB6.out (j := 1) rfl
        have x2 := own_at OB6.out (j := 2) rfl
        have zx : w5.heap.size < w6.heap.size := World.block_lt_of_cell? w6 _ x1
        have N8 := Lib.hid (N7.out.draw C8 G8)
        clear C8 G8 N7 OB g0 g1 g2 g3
        cases ok
        all_goals
          go_wp2
          (refine wp_region_ext_lit (by kernel_rfl) (by kernel_rfl) ?_; (repeat (go_big_quiet_step ((fail)))); refine wpQuiet_nil ?_; rintro wq ⟨⟨_, heq⟩, rfl⟩; (try dsimp only))
          have N9 := Lib.hid (N8.out.step heq)
          have EF := Lib.hid (ext_of_cur N9.out.grown)
          go_wp2
        · exact bodyPost_ret (v := .tuple #[.slice _ m mc, .int .i64 x.Wide, .int .i64 x.High, .int .i64 off]) (by simp [results, Tryd.results5, go_sem]) rfl ⟨_, m, mc, _, _, off, xs, rfl, hm, N9.out.combL hm, EF.out⟩
        · exact bodyPost_ret (v := .tuple #[.slice _ m mc, .int .i64 x.High, .int .i64 x.Wide, .int .i64 off]) (by simp [results, Tryd.results5, go_sem]) rfl ⟨_, m, mc, _, _, off, xs, rfl, hm, N9.out.combL hm, EF.out⟩
    · have y1 : decide ((0 : Int) < (m : Int)) = false := by simp; omega
      have y2 : decide (0 < m) = false := by simp; omega
      go_wp2_with fail
      refine (ask5_any w.heap.size _ _ N4.out.cur (by omega)).mono ?_
      rintro e w5 ⟨v, rfl, ⟨a, rfl, a1, a2⟩, C6, G6⟩
      have N6 := Lib.hid (N4.out.draw C6 G6)
      clear C6 G6 N4
      go_wp2_with fail
      refine (ask5_any w.heap.size _ _ N6.out.cur (by omega)).mono ?_
      rintro e w6 ⟨v, rfl, ⟨b, rfl, b1, b2⟩, C7, G7⟩
      have N7 := Lib.hid (N6.out.draw C7 G7)
      clear C7 G7 N6
      have EF := Lib.hid (ext_of_cur N7.out.grown)
      go_wp2
      exact bodyPost_ret (v := .tuple #[.slice B m mc, .int .i64 a, .int .i64 b, .int .i64 off]) (by simp [results, Tryd.results5, go_sem]) rfl ⟨B, m, mc, a, b, off, xs, rfl, hm, N7.out.combL hm, EF.out⟩
  · go_wp2_with fail
    refine (among_any w.heap.size _ (some ⟨w1.heap.size, 0, none⟩) 5 6 [0, 10, 25, 100, -1] (-1) 101 _ N3.out.cur (by decide) (by omega) (by decide) (by decide) (Rd.take (m := 5) R1.out (by decide)) (Off.ne (by omega))).mono ?_
    rintro e w3 ⟨v, rfl, ⟨off, rfl, u1, u2⟩, C4, G4⟩
    have N4 := Lib.hid (N3.out.draw C4 G4)
    clear C4 G4 N3 R1 d0 d1 d2 hgl
    by_cases hm0 : 0 < m
    · have y1 : decide ((0 : Int) < (m : Int)) = true := by simp; omega
      have y2 : decide (0 < m) = true := by simp; omega
      go_wp2_with fail
      refine (one_any w.heap.size _ 2 _ N4.out.cur (by omega) (by omega)).mono ?_
      rintro e w4 ⟨v, rfl, ⟨ok, rfl⟩, C5, G5⟩
      have N5 := Lib.hid (N4.out.draw C5 G5)
      clear C5 G5 N4
      cases ok
      · go_wp2_with fail
        refine (ask5_any w.heap.size _ _ N5.out.cur (by omega)).mono ?_
        rintro e w5 ⟨v, rfl, ⟨a, rfl, a1, a2⟩, C6, G6⟩
        have N6 := Lib.hid (N5.out.draw C6 G6)
        clear C6 G6 N5
        go_wp2_with fail
        refine (ask5_any w.heap.size _ _ N6.out.cur (by omega)).mono ?_
        rintro e w6 ⟨v, rfl, ⟨b, rfl, b1, b2⟩, C7, G7⟩
        have N7 := Lib.hid (N6.out.draw C7 G7)
        clear C7 G7 N6
        have EF := Lib.hid (ext_of_cur N7.out.grown)
        go_wp2
        exact bodyPost_ret (v := .tuple #[.slice B m mc, .int .i64 a, .int .i64 b, .int .i64 off]) (by simp [results, Tryd.results5, go_sem]) rfl ⟨B, m, mc, a, b, off, xs, rfl, hm, N7.out.combL hm, EF.out⟩
      · go_wp2_with fail
        refine (pick_any w.heap.size _ m _ N5.out.cur (by omega) (by omega)).mono ?_
        rintro e w5 ⟨v, rfl, ⟨p, rfl, p0, p1⟩, C6, G6⟩
        have N6 := Lib.hid (N5.out.draw C6 G6)
        clear C6 G6 N5
        have hgb : w.heap.size < w5.heap.size := N6.out.cur.lt
        obtain ⟨p, rfl⟩ : ∃ q : Nat, p = q := ⟨p.toNat, by omega⟩
        have hpm : p < m := by omega
        have hpm2 : (p : Int) < (m : Int) := by omega
        obtain ⟨bb, offb, x, eA, hbb, hx, g0, g1, g2, g3⟩ := (N6.out.combL hm).at_ hpm
        have OB := Lib.hid (own_block w5 32 x.cs)
        have N7 := Lib.hid (N6.out.step ((Ext.refl w5).alloc (.cells #[.int .i64 x.Id, .int .i64 x.Wide, .int .i64 x.High, .bool x.Line] 32)))
        subst eA
        clear p0 p1 hx N6
        go_wp2_with fail
        refine (one_any w.heap.size _ 2 _ N7.out.cur (by omega) (by omega)).mono ?_
        rintro e w6 ⟨v, rfl, ⟨ok, rfl⟩, C8, G8⟩
        skip
        have OB6 := Lib.hid (OB.out.kept G8 (Or.inr (by simp [Value.ownBlock]; omega)))
        have x1 := own_at OB6.out (j := 1) rfl
        have x2 := own_at OB6.out (j := 2) rfl
        have zx : w5.heap.size < w6.heap.size := World.block_lt_of_cell? w6 _ x1
        have N8 := Lib.hid (N7.out.draw C8 G8)
        clear C8 G8 N7 OB g0 g1 g2 g3
        cases ok
        all_goals
          go_wp2
          (refine wp_region_ext_lit (by kernel_rfl) (by kernel_rfl) ?_; (repeat (go_big_quiet_step ((fail)))); refine wpQuiet_nil ?_; rintro wq ⟨⟨_, heq⟩, rfl⟩; (try dsimp only))
          have N9 := Lib.hid (N8.out.step heq)
          have EF := Lib.hid (ext_of_cur N9.out.grown)
          go_wp2
        · exact bodyPost_ret (v := .tuple #[.slice _ m mc, .int .i64 x.Wide, .int .i64 x.High, .int .i64 off]) (by simp [results, Tryd.results5, go_sem]) rfl ⟨_, m, mc, _, _, off, xs, rfl, hm, N9.out.combL hm, EF.out⟩
        · exact bodyPost_ret (v := .tuple #[.slice _ m mc, .int .i64 x.High, .int .i64 x.Wide, .int .i64 off]) (by simp [results, Tryd.results5, go_sem]) rfl ⟨_, m, mc, _, _, off, xs, rfl, hm, N9.out.combL hm, EF.out⟩
    · have y1 : decide ((0 : Int) < (m : Int)) = false := by simp; omega
      have y2 : decide (0 < m) = false := by simp; omega
      go_wp2_with fail
      refine (ask5_any w.heap.size _ _ N4.out.cur (by omega)).mono ?_
      rintro e w5 ⟨v, rfl, ⟨a, rfl, a1, a2⟩, C6, G6⟩
      have N6 := Lib.hid (N4.out.draw C6 G6)
      clear C6 G6 N4
      go_wp2_with fail
      refine (ask5_any w.heap.size _ _ N6.out.cur (by omega)).mono ?_
      rintro e w6 ⟨v, rfl, ⟨b, rfl, b1, b2⟩, C7, G7⟩
      have N7 := Lib.hid (N6.out.draw C7 G7)
      clear C7 G7 N6
      have EF := Lib.hid (ext_of_cur N7.out.grown)
      go_wp2
      exact bodyPost_ret (v := .tuple #[.slice B m mc, .int .i64 a, .int .i64 b, .int .i64 off]) (by simp [results, Tryd.results5, go_sem]) rfl ⟨B, m, mc, a, b, off, xs, rfl, hm, N7.out.combL hm, EF.out⟩
  · go_wp2_with fail
    refine (among_any w.heap.size _ (some ⟨w1.heap.size, 0, none⟩) 6 6 [0, 10, 25, 100, -1, 101] (-1) 101 _ N3.out.cur (by decide) (by omega) (by decide) (by decide) (Rd.take (m := 6) R1.out (by decide)) (Off.ne (by omega))).mono ?_
    rintro e w3 ⟨v, rfl, ⟨off, rfl, u1, u2⟩, C4, G4⟩
    have N4 := Lib.hid (N3.out.draw C4 G4)
    clear C4 G4 N3 R1 d0 d1 d2 hgl
    by_cases hm0 : 0 < m
    · have y1 : decide ((0 : Int) < (m : Int)) = true := by simp; omega
      have y2 : decide (0 < m) = true := by simp; omega
      go_wp2_with fail
      refine (one_any w.heap.size _ 2 _ N4.out.cur (by omega) (by omega)).mono ?_
      rintro e w4 ⟨v, rfl, ⟨ok, rfl⟩, C5, G5⟩
      have N5 := Lib.hid (N4.out.draw C5 G5)
      clear C5 G5 N4
      cases ok
      · go_wp2_with fail
        refine (ask5_any w.heap.size _ _ N5.out.cur (by omega)).mono ?_
        rintro e w5 ⟨v, rfl, ⟨a, rfl, a1, a2⟩, C6, G6⟩
        have N6 := Lib.hid (N5.out.draw C6 G6)
        clear C6 G6 N5
        go_wp2_with fail
        refine (ask5_any w.heap.size _ _ N6.out.cur (by omega)).mono ?_
        rintro e w6 ⟨v, rfl, ⟨b, rfl, b1, b2⟩, C7, G7⟩
        have N7 := Lib.hid (N6.out.draw C7 G7)
        clear C7 G7 N6
        have EF := Lib.hid (ext_of_cur N7.out.grown)
        go_wp2
        exact bodyPost_ret (v := .tuple #[.slice B m mc, .int .i64 a, .int .i64 b, .int .i64 off]) (by simp [results, Tryd.results5, go_sem]) rfl ⟨B, m, mc, a, b, off, xs, rfl, hm, N7.out.combL hm, EF.out⟩
      · go_wp2_with fail
        refine (pick_any w.heap.size _ m _ N5.out.cur (by omega) (by omega)).mono ?_
        rintro e w5 ⟨v, rfl, ⟨p, rfl, p0, p1⟩, C6, G6⟩
        have N6 := Lib.hid (N5.out.draw C6 G6)
        clear C6 G6 N5
        have hgb : w.heap.size < w5.heap.size := N6.out.cur.lt
        obtain ⟨p, rfl⟩ : ∃ q : Nat, p = q := ⟨p.toNat, by omega⟩
        have hpm : p < m := by omega
        have hpm2 : (p : Int) < (m : Int) := by omega
        obtain ⟨bb, offb, x, eA, hbb, hx, g0, g1, g2, g3⟩ := (N6.out.combL hm).at_ hpm
        have OB := Lib.hid (own_block w5 32 x.cs)
        have N7 := Lib.hid (N6.out.step ((Ext.refl w5).alloc (.cells #[.int .i64 x.Id, .int .i64 x.Wide, .int .i64 x.High, .bool x.Line] 32)))
        subst eA
        clear p0 p1 hx N6
        go_wp2_with fail
        refine (one_any w.heap.size _ 2 _ N7.out.cur (by omega) (by omega)).mono ?_
        rintro e w6 ⟨v, rfl, ⟨ok, rfl⟩, C8, G8⟩
        skip
        have OB6 := Lib.hid (OB.out.kept G8 (Or.inr (by simp [Value.ownBlock]; omega)))
        have x1 := own_at OB6.out (j := 1) rfl
        have x2 := own_at OB6.out (j := 2) rfl
        have zx : w5.heap.size < w6.heap.size := World.block_lt_of_cell? w6 _ x1
        have N8 := Lib.hid (N7.out.draw C8 G8)
        clear C8 G8 N7 OB g0 g1 g2 g3
        cases ok
        all_goals
          go_wp2
          (refine wp_region_ext_lit (by kernel_rfl) (by kernel_rfl) ?_; (repeat (go_big_quiet_step ((fail)))); refine wpQuiet_nil ?_; rintro wq ⟨⟨_, heq⟩, rfl⟩; (try dsimp only))
          have N9 := Lib.hid (N8.out.step heq)
          have EF := Lib.hid (ext_of_cur N9.out.grown)
          go_wp2
        · exact bodyPost_ret (v := .tuple #[.slice _ m mc, .int .i64 x.Wide, .int .i64 x.High, .int .i64 off]) (by simp [results, Tryd.results5, go_sem]) rfl ⟨_, m, mc, _, _, off, xs, rfl, hm, N9.out.combL hm, EF.out⟩
        · exact bodyPost_ret (v := .tuple #[.slice _ m mc, .int .i64 x.High, .int .i64 x.Wide, .int .i64 off]) (by simp [results, Tryd.results5, go_sem]) rfl ⟨_, m, mc, _, _, off, xs, rfl, hm, N9.out.combL hm, EF.out⟩
    · have y1 : decide ((0 : Int) < (m : Int)) = false := by simp; omega
      have y2 : decide (0 < m) = false := by simp; omega
      go_wp2_with fail
      refine (ask5_any w.heap.size _ _ N4.out.cur (by omega)).mono ?_
      rintro e w5 ⟨v, rfl, ⟨a, rfl, a1, a2⟩, C6, G6⟩
      have N6 := Lib.hid (N4.out.draw C6 G6)
      clear C6 G6 N4
      go_wp2_with fail
      refine (ask5_any w.heap.size _ _ N6.out.cur (by omega)).mono ?_
      rintro e w6 ⟨v, rfl, ⟨b, rfl, b1, b2⟩, C7, G7⟩
      have N7 := Lib.hid (N6.out.draw C7 G7)
      clear C7 G7 N6
      have EF := Lib.hid (ext_of_cur N7.out.grown)
      go_wp2
      exact bodyPost_ret (v := .tuple #[.slice B m mc, .int .i64 a, .int .i64 b, .int .i64 off]) (by simp [results, Tryd.results5, go_sem]) rfl ⟨B, m, mc, a, b, off, xs, rfl, hm, N7.out.combL hm, EF.out⟩
set_option maxRecDepth 100000 in
set_option maxHeartbeats 1000000 in
theorem DrawGaugeText_any (A : Option Addr) (n c : Nat) (l : List Int) (w : World) (h : CodeOk w A n l) :
    Calls Tryd.prog 15 #[.slice A n c] w fun e w' => ∃ a : Int, e = .returned (.int .i64 a) ∧ Ext w w' := by
  have K := Lib.hid (h.cur c)
  clear h
  go_enter Tryd.func15, Tryd.ntmps15
  have EL := (Ext.refl (w.alloc (.cells #[.slice A n c, .int .i64 0, .int .u64 0] 47))).alloc (.cells (ints [500, 1100, 1105, 1150, 1175, 2000, 499, 2001]).toArray 3)
  have R0 := own_list (w.alloc (.cells #[.slice A n c, .int .i64 0, .int .u64 0] 47)) 3 [500, 1100, 1105, 1150, 1175, 2000, 499, 2001]
  simp only [World.size_alloc] at R0
  have R0 := Lib.hid R0
  have C0 := Lib.hid (K.out.ext EL)
  have G0 := Lib.hid (grown_of_ext (g := some w.heap.size) EL)
  clear EL K
  go_wp2_with fail
  refine (pick_any w.heap.size _ 24 _ C0.out (by omega) (by omega)).mono ?_
  rintro e w2 ⟨v, rfl, ⟨r, rfl, r0, r1⟩, C2, G2⟩
  have R1 := Lib.hid (Rd.own (R0.out.kept G2 (Or.inr (by simp [Value.ownBlock]))))
  have GA := Lib.hid (grown_trans G0.out G2)
  have hr3 := quo11 r0 (by omega)
  clear R0 G2 C0 G0
  rcases hr3 with ⟨d0, d1, d2⟩ | ⟨d0, d1, d2⟩ | ⟨d0, d1, d2⟩
  · go_wp2_with fail
    refine (among_any w.heap.size _ (some ⟨w.heap.size + 1, 0, none⟩) 6 8 [500, 1100, 1105, 1150, 1175, 2000] 0 3000 _ C2 (by decide) (by omega) (by decide) (by decide) (Rd.take (m := 6) R1.out (by decide)) (Off.ne (by omega))).mono ?_
    rintro e w3 ⟨v, rfl, ⟨off, rfl, u1, u2⟩, C4, G4⟩
    have EF := Lib.hid (ext_of_cur (grown_trans GA.out G4))
    go_wp2
    go_ret
    exact ⟨_, rfl, EF.out⟩
  · go_wp2_with fail
    refine (among_any w.heap.size _ (some ⟨w.heap.size + 1, 0, none⟩) 7 8 [500, 1100, 1105, 1150, 1175, 2000, 499] 0 3000 _ C2 (by decide) (by omega) (by decide) (by decide) (Rd.take (m := 7) R1.out (by decide)) (Off.ne (by omega))).mono ?_
    rintro e w3 ⟨v, rfl, ⟨off, rfl, u1, u2⟩, C4, G4⟩
    have EF := Lib.hid (ext_of_cur (grown_trans GA.out G4))
    go_wp2
    go_ret
    exact ⟨_, rfl, EF.out⟩
  · go_wp2_with fail
    refine (among_any w.heap.size _ (some ⟨w.heap.size + 1, 0, none⟩) 8 8 [500, 1100, 1105, 1150, 1175, 2000, 499, 2001] 0 3000 _ C2 (by decide) (by omega) (by decide) (by decide) (Rd.take (m := 8) R1.out (by decide)) (Off.ne (by omega))).mono ?_
    rintro e w3 ⟨v, rfl, ⟨off, rfl, u1, u2⟩, C4, G4⟩
    have EF := Lib.hid (ext_of_cur (grown_trans GA.out G4))
    go_wp2
    go_ret
    exact ⟨_, rfl, EF.out⟩
set_option maxRecDepth 100000 in
set_option maxHeartbeats 4000000 in
theorem DrawCombText_any (A : Option Addr) (n c : Nat) (l : List Int) (w : World) (h : CodeOk w A n l) :
    Calls Tryd.prog 18 #[.slice A n c] w fun e w' => ∃ r : Comb, e = .returned (.agg #[.int .i64 r.Id, .int .i64 r.Wide, .int .i64 r.High, .bool r.Line]) ∧ Ext w w' := by
  have OZ := Lib.hid (own_block w 32 [.int .i64 0, .int .i64 0, .int .i64 0, .bool false])
  have E0 := (Ext.refl w).alloc (.cells #[.int .i64 0, .int .i64 0, .int .i64 0, .bool false] 32)
  have K := Lib.hid ((h.ext E0).cur c)
  simp only [World.size_alloc] at K
  have nz : Value.ownBlock (.slice (some ⟨w.heap.size, 0, none⟩) 1 1) = none ∨ Value.ownBlock (.slice (some ⟨w.heap.size, 0, none⟩) 1 1) ≠ some (w.heap.size + 1) := Or.inr (by simp [Value.ownBlock])
  clear h
  go_enter Tryd.func18, Tryd.ntmps18
  go_wp2_with fail
  refine (among_at _ _ _ [1, 42, 99] 1 99 _ _ K.out (by simp) (by decide) (by omega) (by decide) (by decide)).mono ?_
  rintro e w1 ⟨v, rfl, ⟨u, rfl, u1, u2⟩, C1, G1⟩
  go_wp2_with fail
  refine (comb5_any _ _ u _ C1 (by omega)).mono ?_
  rintro e w2 ⟨v, rfl, ⟨r, rfl⟩, C2, G2⟩
  have OZ5 := Lib.hid ((((Ext.refl _).alloc _).own OZ.out |>.kept G1 nz).kept G2 nz)
  have G := Lib.hid (grown_trans G1 G2)
  clear G1 G2 C1 C2
  go_wp2_with (refine wpList_store_own rfl 32 (.tmp 2) (.tmp 11) rfl w.heap.size 0 [.int .i64 r.Id, .int .i64 r.Wide, .int .i64 r.High, .bool r.Line] rfl rfl w.heap.size 32 4 1 1 _ OZ5.out (by simp) comb_size rfl ?_; intro w9 ho9 hg9)
  have r0 := own_at ho9 (j := 0) rfl
  have r1 := own_at ho9 (j := 1) rfl
  have r2 := own_at ho9 (j := 2) rfl
  have r3 := own_at ho9 (j := 3) rfl
  have EF := Lib.hid ((E0.trans (ext_of_cur (w := w.alloc (.cells #[.int .i64 0, .int .i64 0, .int .i64 0, .bool false] 32)) (by rw [World.size_alloc]; exact G.out))).row hg9 (Nat.le_refl _))
  exact bodyPost_ret (v := .agg #[.int .i64 r.Id, .int .i64 r.Wide, .int .i64 r.High, .bool r.Line]) (by simp [results, Tryd.results18, go_sem, r0, r1, r2, r3]) rfl ⟨r, rfl, EF.out⟩
end Go.Proofs.YtoafaejhabjlnaaDoor
