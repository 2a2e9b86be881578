/- The draws of the statements on rates. -/
import Derived.Test.YtkganlojknhajaaDrawRates
namespace Go.Proofs.Ytkganlojknhajaa
open Go.RowKit
set_option linter.unusedVariables false
set_option linter.unusedSimpArgs false
attribute [local go_sem] ExtOf.cell

theorem own_le {w : World} {base T size n c : Nat} {A : Option Addr} {cs : List Value} (h : w.ownsRow base T size (.slice A n c) n cs) : n ≤ c := by
  rcases h.2 with ⟨h1, h2⟩ | ⟨g, cap, cur, h1, _, _, h4, _⟩
  · omega
  · injection h1 with _ _ e3; omega
/-- What is drawn of rates: a list. -/
def DrawnL (B : Option Addr) (m mc : Nat) (w' : World) : Prop := ∃ xs : List Rate, m ≤ mc ∧ RateL w' B m xs
theorem DrawnL.of {w0 w : World} {g b : Nat} {A : Option Addr} {n c : Nat} {xs : List Rate} (h : DSt w0 g b 25 5 A n c (xs.flatMap Rate.cs) w) (hx : ∀ x ∈ xs, RateSm x) (hn : n ≤ 40) : DrawnL A n c w :=
  ⟨xs, own_le h.row, by have := h.row.1; rw [flat_length Rate.cs 5 Rate.len] at this; omega, by omega, fun x hm => (hx x hm).wf, Rd.own h.row⟩
set_option maxHeartbeats 1000000 in
theorem rateDay_any (g b : Nat) (w : World) (h : Cur w g b) (hb : b ≤ 1000000) :
    Calls Try.prog 77 #[.pointer (some ⟨g, 0, none⟩)] w (CurPost g (b + 2) w (IntIn (-1) 4001)) := by
  go_enter Try.func77, Try.ntmps77
  go_wp2_with fail
  refine (among_at g b _ [0, 1, 4, 5, 6, 9, 10, 11, 14, 15, 20, 25, 4000, 4001, -1] (-1) 4001 _ _ h rfl (by decide) (by omega) (by decide) (by decide)).mono ?_
  rintro e w1 ⟨v, rfl, ⟨u, rfl, u1, u2⟩, C1, G1⟩
  go_wp2
  go_ret
  exact ⟨_, rfl, ⟨u, rfl, u1, u2⟩, C1, G1⟩
set_option maxHeartbeats 1000000 in
theorem DrawAreRates_any (A : Option Addr) (n c : Nat) (l : List Int) (w : World) (h : CodeOk w A n l) :
    Calls Try.prog 78 #[.slice A n c] w fun e w' => ∃ B m mc, e = .returned (.slice B m mc) ∧ DrawnL B m mc w' ∧ Ext w w' := by
  have K := Lib.hid (h.cur c)
  go_enter Try.func78, Try.ntmps78
  go_wp2_with fail
  refine (rates_any w.heap.size 0 _ K.out (by omega)).mono ?_; rintro e w1 ⟨v, rfl, ⟨L, m, mc, rfl, hm40, hst⟩, C1, G1⟩; obtain ⟨xs, hst2, hxs⟩ := hst.st; have N1 := Lib.hid hst2; have HX := Lib.hid hxs; have EG := Lib.hid G1; clear hst hst2 hxs C1 G1
  go_wp2
  go_ret
  exact ⟨L, m, mc, rfl, DrawnL.of N1.out HX.out hm40, ext_of_cur EG.out⟩
set_option maxHeartbeats 1000000 in
theorem DrawStrangeRates_any (A : Option Addr) (n c : Nat) (l : List Int) (w : World) (h : CodeOk w A n l) :
    Calls Try.prog 48 #[.slice A n c] w fun e w' => ∃ B m mc, e = .returned (.slice B m mc) ∧ DrawnL B m mc w' ∧ Ext w w' := by
  go_enter Try.func48, Try.ntmps48
  go_wp2_with fail
  refine (DrawAreRates_any A n c l _ h).mono ?_
  rintro e w1 ⟨B, m, mc, rfl, hd, he⟩
  go_wp2
  go_ret
  exact ⟨B, m, mc, rfl, hd, he⟩
set_option maxHeartbeats 1000000 in
theorem DrawCheapestZones_any (A : Option Addr) (n c : Nat) (l : List Int) (w : World) (h : CodeOk w A n l) :
    Calls Try.prog 46 #[.slice A n c] w fun e w' => ∃ B m mc a1 a2, e = .returned (.tuple #[.slice B m mc, .int .i64 a1, .int .i64 a2]) ∧ DrawnL B m mc w' ∧ Ext w w' := by
  have K := Lib.hid (h.cur c)
  go_enter Try.func46, Try.ntmps46
  go_wp2_with fail
  refine (rates_any w.heap.size 0 _ K.out (by omega)).mono ?_; rintro e w1 ⟨v, rfl, ⟨L, m, mc, rfl, hm40, hst⟩, C1, G1⟩; obtain ⟨xs, hst2, hxs⟩ := hst.st; have N1 := Lib.hid hst2; have HX := Lib.hid hxs; have EG := Lib.hid G1; clear hst hst2 hxs C1 G1
  go_wp2_with fail
  refine (rateDay_any _ _ _ N1.out.cur (by omega)).mono ?_
  rintro e w2 ⟨v, rfl, ⟨u, rfl, u1, u2⟩, C2, G2⟩
  have N2 := Lib.hid (N1.out.draw C2 G2)
  go_wp2_with fail
  refine (among_at _ _ _ [1, 20, 21, 51, 101, 0] 0 101 _ _ N2.out.cur rfl (by decide) (by omega) (by decide) (by decide)).mono ?_
  rintro e w3 ⟨v, rfl, ⟨x, rfl, x1, x2⟩, C3, G3⟩
  have N3 := Lib.hid (N2.out.draw C3 G3)
  have EF := Lib.hid (ext_of_cur (grown_trans EG.out (grown_trans G2 G3)))
  go_wp2
  go_ret3
  exact ⟨L, m, mc, u, x, rfl, DrawnL.of N3.out HX.out hm40, EF.out⟩
set_option maxHeartbeats 1000000 in
theorem DrawHeaviestFor_any (A : Option Addr) (n c : Nat) (l : List Int) (w : World) (h : CodeOk w A n l) :
    Calls Try.prog 49 #[.slice A n c] w fun e w' => ∃ B m mc a1 a2 a3, e = .returned (.tuple #[.slice B m mc, .int .i64 a1, .int .i64 a2, .int .i64 a3]) ∧ DrawnL B m mc w' ∧ Ext w w' := by
  have K := Lib.hid (h.cur c)
  go_enter Try.func49, Try.ntmps49
  go_wp2_with fail
  refine (rates_any w.heap.size 0 _ K.out (by omega)).mono ?_; rintro e w1 ⟨v, rfl, ⟨L, m, mc, rfl, hm40, hst⟩, C1, G1⟩; obtain ⟨xs, hst2, hxs⟩ := hst.st; have N1 := Lib.hid hst2; have HX := Lib.hid hxs; have EG := Lib.hid G1; clear hst hst2 hxs C1 G1
  go_wp2_with fail
  refine (rateDay_any _ _ _ N1.out.cur (by omega)).mono ?_
  rintro e w2 ⟨v, rfl, ⟨u, rfl, u1, u2⟩, C2, G2⟩
  have N2 := Lib.hid (N1.out.draw C2 G2)
  go_wp2_with fail
  refine (among_at _ _ _ [0, 0, 1, 2, 10] 0 10 _ _ N2.out.cur rfl (by decide) (by omega) (by decide) (by decide)).mono ?_
  rintro e w3 ⟨v, rfl, ⟨x, rfl, x1, x2⟩, C3, G3⟩
  have N3 := Lib.hid (N2.out.draw C3 G3)
  go_wp2_with fail
  refine (among_at _ _ _ [3, 4, 5, 10, 12, 25, 9999, 0, 10000] 0 10000 _ _ N3.out.cur rfl (by decide) (by omega) (by decide) (by decide)).mono ?_
  rintro e w4 ⟨v, rfl, ⟨y, rfl, y1, y2⟩, C4, G4⟩
  have N4 := Lib.hid (N3.out.draw C4 G4)
  have EF := Lib.hid (ext_of_cur (grown_trans EG.out (grown_trans G2 (grown_trans G3 G4))))
  go_wp2
  exact bodyPost_ret (v := .tuple #[.slice L m mc, .int .i64 u, .int .i64 x, .int .i64 y]) (by simp [results, Try.results49, go_sem]) rfl ⟨L, m, mc, u, x, y, rfl, DrawnL.of N4.out HX.out hm40, EF.out⟩
set_option maxRecDepth 100000 in
set_option maxHeartbeats 2000000 in
theorem DrawRaiseRate_any (A : Option Addr) (n c : Nat) (l : List Int) (w : World) (h : CodeOk w A n l) :
    Calls Try.prog 44 #[.slice A n c] w fun e w' => ∃ B m mc a1 a2 a3 a4, e = .returned (.tuple #[.slice B m mc, .int .i64 a1, .int .i64 a2, .int .i64 a3, .int .i64 a4]) ∧ DrawnL B m mc w' ∧ Ext w w' := by
  have K := Lib.hid (h.cur c)
  go_enter Try.func44, Try.ntmps44
  go_wp2_with fail
  refine (rates_any w.heap.size 0 _ K.out (by omega)).mono ?_; rintro e w1 ⟨v, rfl, ⟨L, m, mc, rfl, hm40, hst⟩, C1, G1⟩; obtain ⟨xs, hst2, hxs⟩ := hst.st; have N1 := Lib.hid hst2; have HX := Lib.hid hxs; have EG := Lib.hid G1; clear hst hst2 hxs C1 G1
  go_wp2_with fail
  refine (among_at _ _ _ [4, 5, 6, 9999, 0, 10000] 0 10000 _ _ N1.out.cur rfl (by decide) (by omega) (by decide) (by decide)).mono ?_
  rintro e w2 ⟨v, rfl, ⟨cc, rfl, c1, c2⟩, C2, G2⟩
  have N2 := Lib.hid (N1.out.draw C2 G2)
  have EG2 := Lib.hid (grown_trans EG.out G2)
  clear C2 G2 N1 EG
  by_cases hm0 : m = 0
  · have hd0 : decide ((0 : Int) < (m : Int)) = false := by simp; omega
    have hd1 : decide (0 < m) = false := by simp; omega
    have hd2 : ¬ 0 < m := by omega
    clear hm0
    go_wp2_with fail
    refine (among_at _ _ _ [20, 50, 1] 1 50 _ _ N2.out.cur rfl (by decide) (by omega) (by decide) (by decide)).mono ?_
    rintro e w5 ⟨v, rfl, ⟨x, rfl, x1, x2⟩, C5, G5⟩
    have N5 := Lib.hid (N2.out.draw C5 G5)
    go_wp2_with fail
    refine (rateDay_any _ _ _ N5.out.cur (by omega)).mono ?_
    rintro e w6 ⟨v, rfl, ⟨u, rfl, u1, u2⟩, C6, G6⟩
    have N6 := Lib.hid (N5.out.draw C6 G6)
    have EF := Lib.hid (ext_of_cur (grown_trans EG2.out (grown_trans G5 G6)))
    go_wp2
    exact bodyPost_ret (v := .tuple #[.slice L m mc, .int .i64 0, .int .i64 x, .int .i64 u, .int .i64 cc]) (by simp [results, Try.results44, go_sem]) rfl ⟨L, m, mc, 0, x, u, cc, rfl, DrawnL.of N6.out HX.out hm40, EF.out⟩
  · have hd0 : decide ((0 : Int) < (m : Int)) = true := by simp; omega
    go_wp2_with fail
    refine (one_any _ _ 6 _ N2.out.cur (by omega) (by omega)).mono ?_
    rintro e w3 ⟨v, rfl, ⟨ok, rfl⟩, C3, G3⟩
    have N3 := Lib.hid (N2.out.draw C3 G3)
    have EG3 := Lib.hid (grown_trans EG2.out G3)
    clear C3 G3 N2 EG2
    cases ok
    · go_wp2_with fail
      refine (pick_any _ _ m _ N3.out.cur (by omega) (by omega)).mono ?_
      rintro e w4 ⟨v, rfl, ⟨k, rfl, k0, k1⟩, C4, G4⟩
      have N4 := Lib.hid (N3.out.draw C4 G4)
      have EG4 := Lib.hid (grown_trans EG3.out G4)
      clear C4 G4 N3 EG3
      obtain ⟨k, rfl⟩ : ∃ q : Nat, k = q := ⟨k.toNat, by omega⟩
      have hkm : k < m := by omega
      have hlen : xs.length = m := by have := N4.out.row.1; rw [flat_length Rate.cs 5 Rate.len] at this; omega
      obtain ⟨b, off, r, eL, hb, hx, g0, g1, g2, g3, g4⟩ := Rate.at_ (Rd.own N4.out.row) hlen hkm
      subst eL
      have hrs := HX.out r (List.mem_of_getElem? hx.out)
      obtain ⟨s0, s1, s2, s3, s4⟩ := hrs
      unfold smallI at s0 s1 s2 s3 s4
      have hkm2 : (k : Int) < (m : Int) := by omega
      have hgw4 : w.heap.size < w4.heap.size := N4.out.cur.lt
      go_wp2
      have N5 := Lib.hid (N4.out.step ((Ext.refl w4).alloc (.cells #[.int .i64 r.Zone, .int .i64 r.Grams, .int .i64 r.From, .int .i64 r.Until, .int .i64 r.Cents] 25)).drew)
      have x0 : (w4.alloc (.cells #[.int .i64 r.Zone, .int .i64 r.Grams, .int .i64 r.From, .int .i64 r.Until, .int .i64 r.Cents] 25)).drew.cell? ⟨w4.heap.size, 0, none⟩ = some (.int .i64 r.Zone) := (Ext.refl _).drew.cell1 (new_cell _ _ _ 0 _ rfl)
      have x1 : (w4.alloc (.cells #[.int .i64 r.Zone, .int .i64 r.Grams, .int .i64 r.From, .int .i64 r.Until, .int .i64 r.Cents] 25)).drew.cell? ⟨w4.heap.size, 1, none⟩ = some (.int .i64 r.Grams) := (Ext.refl _).drew.cell1 (new_cell _ _ _ 1 _ rfl)
      have x2 : (w4.alloc (.cells #[.int .i64 r.Zone, .int .i64 r.Grams, .int .i64 r.From, .int .i64 r.Until, .int .i64 r.Cents] 25)).drew.cell? ⟨w4.heap.size, 2, none⟩ = some (.int .i64 r.From) := (Ext.refl _).drew.cell1 (new_cell _ _ _ 2 _ rfl)
      clear g0 g1 g2 g3 g4
      refine wp_region_held_drew (S := fun w' => w'.cell? ⟨w4.heap.size, 0, none⟩ = some (.int .i64 r.Zone) ∧ w'.cell? ⟨w4.heap.size, 1, none⟩ = some (.int .i64 r.Grams) ∧ w'.cell? ⟨w4.heap.size, 2, none⟩ = some (.int .i64 r.From)) (by kernel_rfl) ⟨x0, x1, x2⟩ (fun hHeld => ?_)
      refine wpAnyH_take (i := 0) (v := ?_) rfl (by kernel_rfl) (by kernel_rfl) (by kernel_rfl) (fun _ _ _ h => h) (Or.inl ⟨by rfl, ?_⟩) (by assumption) ?_; rotate_left 1; (focus (intro w hSw; (try dsimp only at hSw); obtain ⟨y0, y1, y2⟩ := hSw; go_simp; (try with_reducible rfl))); (try simp only [Act.put, List.setIfInBounds_toArray, List.set_cons_zero, List.set_cons_succ])
      refine wpAnyH_take (i := 1) (v := ?_) rfl (by kernel_rfl) (by kernel_rfl) (by kernel_rfl) (fun _ _ _ h => h) (Or.inl ⟨by rfl, ?_⟩) (by assumption) ?_; rotate_left 1; (focus (intro w hSw; (try dsimp only at hSw); obtain ⟨y0, y1, y2⟩ := hSw; go_simp; (try with_reducible rfl))); (try simp only [Act.put, List.setIfInBounds_toArray, List.set_cons_zero, List.set_cons_succ])
      refine wpAnyH_take (i := 2) (v := ?_) rfl (by kernel_rfl) (by kernel_rfl) (by kernel_rfl) (fun _ _ _ h => h) (Or.inl ⟨by rfl, ?_⟩) (by assumption) ?_; rotate_left 1; (focus (intro w hSw; (try dsimp only at hSw); obtain ⟨y0, y1, y2⟩ := hSw; go_simp; (try with_reducible rfl))); (try simp only [Act.put, List.setIfInBounds_toArray, List.set_cons_zero, List.set_cons_succ])
      refine wpAnyH_take (i := 3) (v := ?_) rfl (by kernel_rfl) (by kernel_rfl) (by kernel_rfl) (fun _ _ _ h => h) (Or.inl ⟨by rfl, ?_⟩) (by assumption) ?_; rotate_left 1; (focus (intro w hSw; (try dsimp only at hSw); obtain ⟨y0, y1, y2⟩ := hSw; go_simp; (try with_reducible rfl))); (try simp only [Act.put, List.setIfInBounds_toArray, List.set_cons_zero, List.set_cons_succ])
      refine wpAnyH_take (i := 4) (v := ?_) rfl (by kernel_rfl) (by kernel_rfl) (by kernel_rfl) (fun _ _ _ h => h) (Or.inl ⟨by rfl, ?_⟩) (by assumption) ?_; rotate_left 1; (focus (intro w hSw; (try dsimp only at hSw); obtain ⟨y0, y1, y2⟩ := hSw; go_simp; (try with_reducible rfl))); (try simp only [Act.put, List.setIfInBounds_toArray, List.set_cons_zero, List.set_cons_succ])
      refine wpAnyH_take (i := 5) (v := ?_) rfl (by kernel_rfl) (by kernel_rfl) (by kernel_rfl) (fun _ _ _ h => h) (Or.inl ⟨by rfl, ?_⟩) (by assumption) ?_; rotate_left 1; (focus (intro w hSw; (try dsimp only at hSw); obtain ⟨y0, y1, y2⟩ := hSw; go_simp; (try with_reducible rfl))); (try simp only [Act.put, List.setIfInBounds_toArray, List.set_cons_zero, List.set_cons_succ])
      refine wpAnyH_take (i := 6) (v := ?_) rfl (by kernel_rfl) (by kernel_rfl) (by kernel_rfl) (fun _ _ _ h => h) (Or.inl ⟨by rfl, ?_⟩) (by assumption) ?_; rotate_left 1; (focus (intro w hSw; (try dsimp only at hSw); obtain ⟨y0, y1, y2⟩ := hSw; go_simp; (try with_reducible rfl))); (try simp only [Act.put, List.setIfInBounds_toArray, List.set_cons_zero, List.set_cons_succ])
      refine wpAnyH_take (i := 7) (v := ?_) rfl (by kernel_rfl) (by kernel_rfl) (by kernel_rfl) (fun _ _ _ h => h) (Or.inl ⟨by rfl, ?_⟩) (by assumption) ?_; rotate_left 1; (focus (intro w hSw; (try dsimp only at hSw); obtain ⟨y0, y1, y2⟩ := hSw; go_simp; (try with_reducible rfl))); (try simp only [Act.put, List.setIfInBounds_toArray, List.set_cons_zero, List.set_cons_succ])
      refine wpAnyH_take (i := 11) (v := ?_) rfl (by kernel_rfl) (by kernel_rfl) (by kernel_rfl) (fun _ _ _ h => h) (Or.inl ⟨by rfl, ?_⟩) (by assumption) ?_; rotate_left 1; (focus (intro w hSw; (try dsimp only at hSw); obtain ⟨y0, y1, y2⟩ := hSw; go_simp; (try with_reducible rfl))); (try simp only [Act.put, List.setIfInBounds_toArray, List.set_cons_zero, List.set_cons_succ])
      refine wpAnyH_ready (rs := [8]) (by kernel_rfl) (by simp) ?_; refine AllReadyH.cons rfl (fun K hK => ?_) AllReadyH.nil; go_simp; (try simp only [Act.put, List.setIfInBounds_toArray, List.set_cons_zero, List.set_cons_succ]); (try go_wp2_with fail); refine hK.out _ _ ⟨((Ext.refl (w4.alloc (.cells #[.int .i64 r.Zone, .int .i64 r.Grams, .int .i64 r.From, .int .i64 r.Until, .int .i64 r.Cents] 25)).drew).alloc (.cells #[.int .i64 0, .int .i64 1, .int .i64 1, .int .i64 2, .int .i64 5] 3)).cell1 x0, ((Ext.refl (w4.alloc (.cells #[.int .i64 r.Zone, .int .i64 r.Grams, .int .i64 r.From, .int .i64 r.Until, .int .i64 r.Cents] 25)).drew).alloc (.cells #[.int .i64 0, .int .i64 1, .int .i64 1, .int .i64 2, .int .i64 5] 3)).cell1 x1, ((Ext.refl (w4.alloc (.cells #[.int .i64 r.Zone, .int .i64 r.Grams, .int .i64 r.From, .int .i64 r.Until, .int .i64 r.Cents] 25)).drew).alloc (.cells #[.int .i64 0, .int .i64 1, .int .i64 1, .int .i64 2, .int .i64 5] 3)).cell1 x2⟩ fun hHeld => ?_; clear hK K; (try simp only [Act.put, List.setIfInBounds_toArray, List.set_cons_zero, List.set_cons_succ])
      refine wpAnyH_ready (rs := [9]) (by kernel_rfl) (by simp) ?_; refine AllReadyH.cons rfl (fun K hK => ?_) AllReadyH.nil; go_simp; (try simp only [Act.put, List.setIfInBounds_toArray, List.set_cons_zero, List.set_cons_succ]); (try go_wp2_with (go_at_call 74; refine (among_at _ _ _ [0, 1, 1, 2, 5] 0 5 _ _ N5.out.cur (by simp) (by decide) (by omega) (by decide) (by decide)).mono ?_; rintro e w6 ⟨v, rfl, ⟨t, rfl, t1, t2⟩, C6, G6⟩; have N6 := Lib.hid (N5.out.draw C6 G6); have b0 := cell_keep G6 (show w4.heap.size ≠ w.heap.size by omega) x0; have b1 := cell_keep G6 (show w4.heap.size ≠ w.heap.size by omega) x1; have b2 := cell_keep G6 (show w4.heap.size ≠ w.heap.size by omega) x2)); refine hK.out _ _ ⟨b0, b1, b2⟩ fun hHeld => ?_; clear hK K; (try simp only [Act.put, List.setIfInBounds_toArray, List.set_cons_zero, List.set_cons_succ])
      have wu : IntKind.i64.wrap (r.From + t) = r.From + t := IntWalk.i64_in _ (by omega)
      refine wpAnyH_take (i := 10) (v := ?_) rfl (by kernel_rfl) (by kernel_rfl) (by kernel_rfl) (fun _ _ _ h => h) (Or.inl ⟨by rfl, ?_⟩) (by assumption) ?_; rotate_left 1; (focus (intro w hSw; (try dsimp only at hSw); obtain ⟨y0, y1, y2⟩ := hSw; go_simp; (try with_reducible rfl))); (try simp only [Act.put, List.setIfInBounds_toArray, List.set_cons_zero, List.set_cons_succ])
      refine wpAnyH_take (i := 12) (v := ?_) rfl (by kernel_rfl) (by kernel_rfl) (by kernel_rfl) (fun _ _ _ h => h) (Or.inl ⟨by rfl, ?_⟩) (by assumption) ?_; rotate_left 1; (focus (intro w hSw; (try dsimp only at hSw); obtain ⟨y0, y1, y2⟩ := hSw; go_simp; (try with_reducible rfl))); (try simp only [Act.put, List.setIfInBounds_toArray, List.set_cons_zero, List.set_cons_succ])
      refine wpAnyH_take (i := 13) (v := ?_) rfl (by kernel_rfl) (by kernel_rfl) (by kernel_rfl) (fun _ _ _ h => h) (Or.inl ⟨by rfl, ?_⟩) (by assumption) ?_; rotate_left 1; (focus (intro w hSw; (try dsimp only at hSw); obtain ⟨y0, y1, y2⟩ := hSw; go_simp; (try with_reducible rfl))); (try simp only [Act.put, List.setIfInBounds_toArray, List.set_cons_zero, List.set_cons_succ])
      refine wpAnyH_take (i := 14) (v := ?_) rfl (by kernel_rfl) (by kernel_rfl) (by kernel_rfl) (fun _ _ _ h => h) (Or.inl ⟨by rfl, ?_⟩) (by assumption) ?_; rotate_left 1; (focus (intro w hSw; (try dsimp only at hSw); obtain ⟨y0, y1, y2⟩ := hSw; go_simp; (try with_reducible rfl))); (try simp only [Act.put, List.setIfInBounds_toArray, List.set_cons_zero, List.set_cons_succ])
      refine wpAnyH_take (i := 15) (v := ?_) rfl (by kernel_rfl) (by kernel_rfl) (by kernel_rfl) (fun _ _ _ h => h) (Or.inl ⟨by rfl, ?_⟩) (by assumption) ?_; rotate_left 1; (focus (intro w hSw; (try dsimp only at hSw); obtain ⟨y0, y1, y2⟩ := hSw; go_simp; (try with_reducible rfl))); (try simp only [Act.put, List.setIfInBounds_toArray, List.set_cons_zero, List.set_cons_succ])
      refine wpAnyH_take (i := 16) (v := ?_) rfl (by kernel_rfl) (by kernel_rfl) (by kernel_rfl) (fun _ _ _ h => h) (Or.inl ⟨by rfl, ?_⟩) (by assumption) ?_; rotate_left 1; (focus (intro w hSw; (try dsimp only at hSw); obtain ⟨y0, y1, y2⟩ := hSw; go_simp; (try with_reducible rfl))); (try simp only [Act.put, List.setIfInBounds_toArray, List.set_cons_zero, List.set_cons_succ])
      refine wpAnyH_done (by kernel_rfl) ?_ _
      (try simp only [List.getElem_toArray, List.getElem_cons_succ, List.getElem_cons_zero, List.setIfInBounds_toArray, List.set_cons_succ, List.set_cons_zero])
      have EF := Lib.hid (ext_of_cur (grown_trans EG4.out (grown_trans (grown_of_ext ((Ext.refl w4).alloc (.cells #[.int .i64 r.Zone, .int .i64 r.Grams, .int .i64 r.From, .int .i64 r.Until, .int .i64 r.Cents] 25)).drew) G6)))
      go_wp2
      exact bodyPost_ret (v := .tuple #[.slice (some ⟨b, off, none⟩) m mc, .int .i64 r.Zone, .int .i64 r.Grams, .int .i64 (r.From + t), .int .i64 cc]) (by simp [results, Try.results44, go_sem]) rfl ⟨_, m, mc, _, _, _, cc, rfl, DrawnL.of N6.out HX.out hm40, EF.out⟩
    · (skip)
      go_wp2_with fail
      refine (among_at _ _ _ [20, 50, 1] 1 50 _ _ N3.out.cur rfl (by decide) (by omega) (by decide) (by decide)).mono ?_
      rintro e w5 ⟨v, rfl, ⟨x, rfl, x1, x2⟩, C5, G5⟩
      have N5 := Lib.hid (N3.out.draw C5 G5)
      go_wp2_with fail
      refine (rateDay_any _ _ _ N5.out.cur (by omega)).mono ?_
      rintro e w6 ⟨v, rfl, ⟨u, rfl, u1, u2⟩, C6, G6⟩
      have N6 := Lib.hid (N5.out.draw C6 G6)
      have EF := Lib.hid (ext_of_cur (grown_trans EG3.out (grown_trans G5 G6)))
      go_wp2
      exact bodyPost_ret (v := .tuple #[.slice L m mc, .int .i64 0, .int .i64 x, .int .i64 u, .int .i64 cc]) (by simp [results, Try.results44, go_sem]) rfl ⟨L, m, mc, 0, x, u, cc, rfl, DrawnL.of N6.out HX.out hm40, EF.out⟩
end Go.Proofs.Ytkganlojknhajaa
