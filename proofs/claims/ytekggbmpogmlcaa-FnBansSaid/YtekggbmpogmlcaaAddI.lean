/- AddBan: the program's entry (made by wip/addban.py). -/
import Derived.Test.YtekggbmpogmlcaaAddK
import Derived.Deep.RegionHeld3
namespace Go.Proofs.Ytekggbmpogmlcaa
open Go.RowKit
set_option linter.unusedVariables false
set_option linter.unusedSimpArgs false
attribute [local go_sem] ExtOf.cell

set_option maxRecDepth 100000 in
set_option maxHeartbeats 16000000 in
theorem AddBanI_any (A : Option Addr) (n c : Nat) (B : Option Addr) (m d : Nat) (ss : List Int) (bs : List Ban) (b : Ban) (w : World) (h : TabL w A n B m ss bs) (hbw : b.Wf) :
    Calls Try.prog 17 #[.agg #[.slice A n c, .slice B m d], .agg #[.int .i64 b.A, .int .i64 b.X, .int .i64 b.B, .int .i64 b.Y]] w (TabPost (okA ss bs b) ss (insB bs b) w) := by
  have N0 := Lib.hid (ASt.new w (.slice A n c) (.slice B m d) b)
  have C := Lib.hid (isKindTable_any w.heap.size A n c B m d ss bs _ (h.ext N0.out.ext) N0.out.c0 N0.out.c1)
  cases h1 : TabOk ss bs
  · have hv : okA ss bs b = false := by simp [okA, h1]
    rw [hv]
    go_enter Try.func17, Try.ntmps17
    go_wp2_with (first | (go_at_call 21; refine C.out.mono ?_; rintro e we ⟨rfl, he⟩; rw [h1]; have NE := Lib.hid (N0.out.step he)) | (refine wpList_store_own rfl 27 (.tmp 4) (.tmp 11) rfl (w.heap.size + 2) 0 [.slice none 0 0, .slice none 0 0] rfl rfl 0 27 2 1 1 _ NE.out.r (by simp) sizeTab rfl ?_; intro w2 ho2 hg2))
    have r0 := own_at ho2 (j := 0) rfl
    have r1 := own_at ho2 (j := 1) rfl
    exact bodyPost_ret (v := .tuple #[.agg #[.slice none 0 0, .slice none 0 0], .bool false]) (by simp [results, Try.results17, go_sem, r0, r1]) rfl ⟨none, 0, 0, none, 0, 0, rfl, own_nil _ _ _ _, own_nil _ _ _ _, NE.out.ext.row hg2 (by omega)⟩
  · have hok : okA ss bs b = TabOk ss (insB bs b) := by simp [okA, h1]
    rw [hok]
    obtain ⟨⟨t1, t2⟩, t3, t4, t5⟩ := TabOk_all h1
    have hn := h.sm
    have hm := h.bl.small
    have HB := Lib.hid h.bl.len
    have hm20 : m ≤ 20 := by have := h.bl.len; omega
    have HPL := Lib.hid (show placeOf bs b ≤ m by have := (placeOf_at bs b).le; have := h.bl.len; omega)
    have HSE := Lib.hid (fun (w' : World) (he : Ext w w') => SearchB_any B m d ss bs b w' (h.bl.ext he) h1)
    have HFB := Lib.hid (fun hf => @found_bad ss bs b hf)
    clear t1 t2 t3 t4 t5 hok
    have HIN := Lib.hid (show insB bs b = bs.take (placeOf bs b) ++ b :: bs.drop (placeOf bs b) from rfl)
    have HIL := Lib.hid (insB_len bs b)
    have hpk : placeOf bs b ≤ 1048576 := by have := HPL.out; omega
    generalize hpp : placeOf bs b = kp at *
    clear hpp
    go_enter Try.func17, Try.ntmps17
    go_wp2_with (first | (go_at_call 21; refine C.out.mono ?_; rintro e we ⟨rfl, he⟩; rw [h1]; have N1 := Lib.hid (N0.out.step he); have c0 := N1.out.c0; have c1 := N1.out.c1; have d0 := N1.out.d0; have d1 := N1.out.d1; have d2 := N1.out.d2; have d3 := N1.out.d3; have ltz := N1.out.lt; have lty : w.heap.size < we.heap.size := (by omega); have ltx : w.heap.size + 1 < we.heap.size := (by omega)) | (go_at_call 33; refine (HSE.out _ N1.out.ext).mono ?_; rintro e wq ⟨rfl, hq⟩))
    have N2 := Lib.hid (N1.out.step (hq.trans (Ext.refl wq).drew))
    have x0 := hq.cell1 c0
    have x1 := hq.cell1 c1
    have y0 := hq.cell1 d0
    have y1 := hq.cell1 d1
    have y2 := hq.cell1 d2
    have y3 := hq.cell1 d3
    clear c0 c1 d0 d1 d2 d3 N0 N1 C HSE he hq ltz lty ltx
    refine wp_region_held_drew (S := (fun w' => w'.cell? ⟨w.heap.size, 0, none⟩ = some (.slice A n c) ∧ w'.cell? ⟨w.heap.size, 1, none⟩ = some (.slice B m d) ∧ w'.cell? ⟨w.heap.size + 1, 0, none⟩ = some (.int .i64 b.A) ∧ w'.cell? ⟨w.heap.size + 1, 1, none⟩ = some (.int .i64 b.X) ∧ w'.cell? ⟨w.heap.size + 1, 2, none⟩ = some (.int .i64 b.B) ∧ w'.cell? ⟨w.heap.size + 1, 3, none⟩ = some (.int .i64 b.Y))) (by kernel_rfl) ?_ (fun hHeld => ?_); (focus ((try dsimp only); (repeat' apply And.intro) <;> first | assumption | exact Ext.cell1 (Ext.drew (Ext.refl _)) (by assumption) | (simp [*, go_sem]; done) | (simp [*, go_sem, World.cell?_alloc_past]; done)))
    (refine wpAnyH_take (i := 0) (v := ?_) rfl (by kernel_rfl) (by kernel_rfl) (by kernel_rfl) (fun _ _ _ h => h) (Or.inl ⟨by rfl, ?_⟩) (by assumption) ?_); rotate_left 1; (focus (intro w hSw; (try dsimp only at hSw); go_simp; (try with_reducible rfl))); (try simp only [Act.put, List.setIfInBounds_toArray, List.set_cons_zero, List.set_cons_succ]); (refine wpAnyH_take (i := 1) (v := ?_) rfl (by kernel_rfl) (by kernel_rfl) (by kernel_rfl) (fun _ _ _ h => h) (Or.inl ⟨by rfl, ?_⟩) (by assumption) ?_); rotate_left 1; (focus (intro w hSw; (try dsimp only at hSw); go_simp; (try with_reducible rfl))); (try simp only [Act.put, List.setIfInBounds_toArray, List.set_cons_zero, List.set_cons_succ]); (refine wpAnyH_take (i := 3) (v := ?_) rfl (by kernel_rfl) (by kernel_rfl) (by kernel_rfl) (fun _ _ _ h => h) (Or.inl ⟨by rfl, ?_⟩) (by assumption) ?_); rotate_left 1; (focus (intro w hSw; (try dsimp only at hSw); go_simp; (try with_reducible rfl))); (try simp only [Act.put, List.setIfInBounds_toArray, List.set_cons_zero, List.set_cons_succ]); (refine wpAnyH_take (i := 4) (v := ?_) rfl (by kernel_rfl) (by kernel_rfl) (by kernel_rfl) (fun _ _ _ h => h) (Or.inl ⟨by rfl, ?_⟩) (by assumption) ?_); rotate_left 1; (focus (intro w hSw; (try dsimp only at hSw); go_simp; (try with_reducible rfl))); (try simp only [Act.put, List.setIfInBounds_toArray, List.set_cons_zero, List.set_cons_succ]); (refine wpAnyH_take (i := 6) (v := ?_) rfl (by kernel_rfl) (by kernel_rfl) (by kernel_rfl) (fun _ _ _ h => h) (Or.inl ⟨by rfl, ?_⟩) (by assumption) ?_); rotate_left 1; (focus (intro w hSw; (try dsimp only at hSw); go_simp; (try with_reducible rfl))); (try simp only [Act.put, List.setIfInBounds_toArray, List.set_cons_zero, List.set_cons_succ]); (refine wpAnyH_take (i := 7) (v := ?_) rfl (by kernel_rfl) (by kernel_rfl) (by kernel_rfl) (fun _ _ _ h => h) (Or.inl ⟨by rfl, ?_⟩) (by assumption) ?_); rotate_left 1; (focus (intro w hSw; (try dsimp only at hSw); go_simp; (try with_reducible rfl))); (try simp only [Act.put, List.setIfInBounds_toArray, List.set_cons_zero, List.set_cons_succ])
    clear x0 x1 y0 y1 y2 y3
    refine wpAnyH_ready (rs := [2, 8, 11]) (by kernel_rfl) (by simp) ?_; refine AllReadyH.cons rfl (fun K hK => ?_) (AllReadyH.cons rfl (fun K hK => ?_) (AllReadyH.cons rfl (fun K hK => ?_) (AllReadyH.nil)))
    focus
      have c0_0 := N2.out.c0
      have c1_0 := N2.out.c1
      have d0_0 := N2.out.d0
      have d1_0 := N2.out.d1
      have d2_0 := N2.out.d2
      have d3_0 := N2.out.d3
      go_simp; (try simp only [Act.put, List.setIfInBounds_toArray, List.set_cons_zero, List.set_cons_succ]); (try go_wp2_with (go_at_call 35; refine (CloneI_any A n c ss _ hn (h.sr.ext N2.out.ext)).mono ?_; rintro e w0 ⟨A1, c1, rfl, oc0, he1⟩)); refine hK.out _ _ ?_ (fun hHeld => ?_); (focus exact ⟨he1.cell1 c0_0, he1.cell1 c1_0, he1.cell1 d0_0, he1.cell1 d1_0, he1.cell1 d2_0, he1.cell1 d3_0⟩); clear hK K; (try simp only [Act.put, List.setIfInBounds_toArray, List.set_cons_zero, List.set_cons_succ])
      have N0 := Lib.hid (N2.out.step he1)
      have lt0 := N0.out.lt
      have rin0 := Lib.hid (own_low' oc0 (show w.heap.size + 3 ≤ _ from N2.out.lt))
      clear oc0 he1 c0_0 c1_0 d0_0 d1_0 d2_0 d3_0
      refine wpAnyH_ready (rs := [5, 8, 11]) (by kernel_rfl) (by simp) ?_; refine AllReadyH.cons rfl (fun K hK => ?_) (AllReadyH.cons rfl (fun K hK => ?_) (AllReadyH.cons rfl (fun K hK => ?_) (AllReadyH.nil)))
      focus
        have c0_1 := N0.out.c0
        have c1_1 := N0.out.c1
        have d0_1 := N0.out.d0
        have d1_1 := N0.out.d1
        have d2_1 := N0.out.d2
        have d3_1 := N0.out.d3
        go_simp; (try simp only [Act.put, List.setIfInBounds_toArray, List.set_cons_zero, List.set_cons_succ]); (try go_wp2_with (go_at_call 24; refine (CloneB_any B m d bs _ hm (h.bl.rd.ext N0.out.ext)).mono ?_; rintro e w1 ⟨A2, c2, rfl, oc1, he1⟩)); refine hK.out _ _ ?_ (fun hHeld => ?_); (focus exact ⟨he1.cell1 c0_1, he1.cell1 c1_1, he1.cell1 d0_1, he1.cell1 d1_1, he1.cell1 d2_1, he1.cell1 d3_1⟩); clear hK K; (try simp only [Act.put, List.setIfInBounds_toArray, List.set_cons_zero, List.set_cons_succ])
        have rbn1 := Lib.hid (own_low' oc1 (show w.heap.size + 3 ≤ _ from N0.out.lt))
        have ri1 := Lib.hid (he1.own rin0.out)
        have N1 := Lib.hid (N0.out.step he1)
        clear oc1 he1 c0_1 c1_1 d0_1 d1_1 d2_1 d3_1
        refine wpAnyH_ready (rs := [8, 11]) (by kernel_rfl) (by simp) ?_; refine AllReadyH.cons rfl (fun K hK => ?_) (AllReadyH.cons rfl (fun K hK => ?_) (AllReadyH.nil))
        focus
          have ne2 : ∀ k, Value.ownBlock (.slice A2 m c2) = some k → k ≠ w1.heap.size := fun k hk => by have hh := (rbn1.out.lt k hk).2; (try simp only [World.size_alloc, World.size_drew] at hh); omega
          have NE := Lib.hid ne2
          clear ne2
          have c0_2 := N1.out.c0
          have c1_2 := N1.out.c1
          have d0_2 := N1.out.d0
          have d1_2 := N1.out.d1
          have d2_2 := N1.out.d2
          have d3_2 := N1.out.d3
          have c0_2a := ((Ext.refl (w1)).alloc (.cells #[.int .i64 b.A, .int .i64 b.X, .int .i64 b.B, .int .i64 b.Y] 42)).cell1 c0_2
          have c1_2a := ((Ext.refl (w1)).alloc (.cells #[.int .i64 b.A, .int .i64 b.X, .int .i64 b.B, .int .i64 b.Y] 42)).cell1 c1_2
          have d0_2a := ((Ext.refl (w1)).alloc (.cells #[.int .i64 b.A, .int .i64 b.X, .int .i64 b.B, .int .i64 b.Y] 42)).cell1 d0_2
          have d1_2a := ((Ext.refl (w1)).alloc (.cells #[.int .i64 b.A, .int .i64 b.X, .int .i64 b.B, .int .i64 b.Y] 42)).cell1 d1_2
          have d2_2a := ((Ext.refl (w1)).alloc (.cells #[.int .i64 b.A, .int .i64 b.X, .int .i64 b.B, .int .i64 b.Y] 42)).cell1 d2_2
          have d3_2a := ((Ext.refl (w1)).alloc (.cells #[.int .i64 b.A, .int .i64 b.X, .int .i64 b.B, .int .i64 b.Y] 42)).cell1 d3_2
          go_simp; (try simp only [Act.put, List.setIfInBounds_toArray, List.set_cons_zero, List.set_cons_succ]); (try go_wp2_with fail); refine hK.out _ _ ?_ (fun hHeld => ?_); (focus exact ⟨c0_2a, c1_2a, d0_2a, d1_2a, d2_2a, d3_2a⟩); clear hK K; (try simp only [Act.put, List.setIfInBounds_toArray, List.set_cons_zero, List.set_cons_succ])
          clear c0_2a c1_2a d0_2a d1_2a d2_2a d3_2a
          have bx2 := own_low' (own_block (w1) 42 [.int .i64 b.A, .int .i64 b.X, .int .i64 b.B, .int .i64 b.Y]) (Nat.zero_le _)
          (try simp only [World.size_alloc, World.size_drew] at bx2)
          have lt2 := N1.out.lt
          (try simp only [World.size_alloc, World.size_drew] at lt2)
          have ri2 := Lib.hid (((Ext.refl (w1)).alloc (.cells #[.int .i64 b.A, .int .i64 b.X, .int .i64 b.B, .int .i64 b.Y] 42)).own ri1.out)
          have rb2 := Lib.hid (((Ext.refl (w1)).alloc (.cells #[.int .i64 b.A, .int .i64 b.X, .int .i64 b.B, .int .i64 b.Y] 42)).own rbn1.out)
          have N2 := Lib.hid (N1.out.step ((Ext.refl (w1)).alloc (.cells #[.int .i64 b.A, .int .i64 b.X, .int .i64 b.B, .int .i64 b.Y] 42)))
          have rvn2 := Lib.hid bx2
          clear bx2 c0_2 c1_2 d0_2 d1_2 d2_2 d3_2
          refine wpAnyH_ready (rs := [9, 11]) (by kernel_rfl) (by simp) ?_; refine AllReadyH.cons rfl (fun K hK => ?_) (AllReadyH.cons rfl (fun K hK => ?_) (AllReadyH.nil))
          focus
            have c0_3 := N2.out.c0
            have c1_3 := N2.out.c1
            have d0_3 := N2.out.d0
            have d1_3 := N2.out.d1
            have d2_3 := N2.out.d2
            have d3_3 := N2.out.d3
            go_simp; (try simp only [Act.put, List.setIfInBounds_toArray, List.set_cons_zero, List.set_cons_succ]); (try go_wp2_with (go_at_call 36; refine (InsertBan_any A2 m c2 kp w1.heap.size (w.heap.size + 3) _ bs b _ HPL.out hm N2.out.lt HB.out rb2.out rvn2.out NE.out).mono ?_; rintro e w3 ⟨A9, c9, rfl, op3, gp3⟩; have N3 := Lib.hid (N2.out.grow gp3 rb2.out); have ri3 := Lib.hid (ri2.out.kept gp3 (own_types ri2.out rb2.out intBan)); have rb3 := Lib.hid op3; clear op3 gp3; have c0_3k := N3.out.c0; have c1_3k := N3.out.c1; have d0_3k := N3.out.d0; have d1_3k := N3.out.d1; have d2_3k := N3.out.d2; have d3_3k := N3.out.d3)); refine hK.out _ _ ?_ (fun hHeld => ?_); (focus exact ⟨c0_3k, c1_3k, d0_3k, d1_3k, d2_3k, d3_3k⟩); clear hK K; (try simp only [Act.put, List.setIfInBounds_toArray, List.set_cons_zero, List.set_cons_succ])
            (refine wpAnyH_take (i := 10) (v := ?_) rfl (by kernel_rfl) (by kernel_rfl) (by kernel_rfl) (fun _ _ _ h => h) (Or.inl ⟨by rfl, ?_⟩) (by assumption) ?_); rotate_left 1; (focus (intro w hSw; (try dsimp only at hSw); go_simp; (try with_reducible rfl))); (try simp only [Act.put, List.setIfInBounds_toArray, List.set_cons_zero, List.set_cons_succ])
            clear c0_3 c1_3 d0_3 d1_3 d2_3 d3_3
            have c0_4 := N3.out.c0
            have c1_4 := N3.out.c1
            have d0_4 := N3.out.d0
            have d1_4 := N3.out.d1
            have d2_4 := N3.out.d2
            have d3_4 := N3.out.d3
            have c0_4a := ((Ext.refl (w3)).alloc (.cells #[.slice none 0 0, .slice none 0 0] 27)).cell1 c0_4
            have c1_4a := ((Ext.refl (w3)).alloc (.cells #[.slice none 0 0, .slice none 0 0] 27)).cell1 c1_4
            have d0_4a := ((Ext.refl (w3)).alloc (.cells #[.slice none 0 0, .slice none 0 0] 27)).cell1 d0_4
            have d1_4a := ((Ext.refl (w3)).alloc (.cells #[.slice none 0 0, .slice none 0 0] 27)).cell1 d1_4
            have d2_4a := ((Ext.refl (w3)).alloc (.cells #[.slice none 0 0, .slice none 0 0] 27)).cell1 d2_4
            have d3_4a := ((Ext.refl (w3)).alloc (.cells #[.slice none 0 0, .slice none 0 0] 27)).cell1 d3_4
            refine wpAnyH_ready (rs := [11]) (by kernel_rfl) (by simp) ?_; refine AllReadyH.cons rfl (fun K hK => ?_) AllReadyH.nil; go_simp; (try simp only [Act.put, List.setIfInBounds_toArray, List.set_cons_zero, List.set_cons_succ]); (try go_wp2_with fail); refine hK.out _ _ ?_ (fun hHeld => ?_); (focus exact ⟨c0_4a, c1_4a, d0_4a, d1_4a, d2_4a, d3_4a⟩); clear hK K; (try simp only [Act.put, List.setIfInBounds_toArray, List.set_cons_zero, List.set_cons_succ])
            clear c0_4a c1_4a d0_4a d1_4a d2_4a d3_4a
            have bx4 := own_low' (own_block (w3) 27 [.slice none 0 0, .slice none 0 0]) (Nat.zero_le _)
            (try simp only [World.size_alloc, World.size_drew] at bx4)
            have lt4 := N3.out.lt
            (try simp only [World.size_alloc, World.size_drew] at lt4)
            have ri4 := Lib.hid (((Ext.refl (w3)).alloc (.cells #[.slice none 0 0, .slice none 0 0] 27)).own ri3.out)
            have rb4 := Lib.hid (((Ext.refl (w3)).alloc (.cells #[.slice none 0 0, .slice none 0 0] 27)).own rb3.out)
            have N4 := Lib.hid (N3.out.step ((Ext.refl (w3)).alloc (.cells #[.slice none 0 0, .slice none 0 0] 27)))
            have BXn4 := Lib.hid bx4
            clear bx4 c0_4 c1_4 d0_4 d1_4 d2_4 d3_4
            obtain ⟨k0, k1, gx⟩ := tab_stored BXn4.out (.slice A1 n c1) (.slice A9 (m + 1) c9)
            have zx : w.heap.size + 2 < w3.heap.size := lt4
            have NF := Lib.hid (N4.out.row gx zx)
            have RBF := Lib.hid (rb4.out.kept gx (own_types rb4.out BXn4.out banTab))
            have RIF := Lib.hid (ri4.out.kept gx (own_types ri4.out BXn4.out intTab))
            have fc0 := NF.out.c0
            have fc1 := NF.out.c1
            have fd0 := NF.out.d0
            have fd1 := NF.out.d1
            have fd2 := NF.out.d2
            have fd3 := NF.out.d3
            refine wpAnyH_ready (rs := [12]) (by kernel_rfl) (by simp) ?_; refine AllReadyH.cons rfl (fun K hK => ?_) AllReadyH.nil; refine step_store rfl 27 (.tmp 8) (.tmp 29) rfl w3.heap.size 0 [.slice A1 n c1, .slice A9 (m + 1) c9] rfl rfl (own_there BXn4.out 0 2 (by simp)) sizeTab rfl rfl ?_; (try simp only [Act.put, List.setIfInBounds_toArray, List.set_cons_zero, List.set_cons_succ]); refine hK.out _ _ ?_ (fun hHeld => ?_); (focus exact ⟨fc0, fc1, fd0, fd1, fd2, fd3⟩); clear hK K; (try simp only [Act.put, List.setIfInBounds_toArray, List.set_cons_zero, List.set_cons_succ])
            refine wpAnyH_done (by kernel_rfl) ?_ _
            clear gx fc0 fc1 fd0 fd1 fd2 fd3 c0_3k c1_3k d0_3k d1_3k d2_3k d3_3k
            have K0 := Lib.hid k0
            have K1 := Lib.hid k1
            clear k0 k1
            obtain ⟨W5, hW5⟩ : ∃ W5, (w3.alloc (.cells #[.slice none 0 0, .slice none 0 0] 27)).setCells w3.heap.size 0 [.slice A1 n c1, .slice A9 (m + 1) c9] = W5 := ⟨_, rfl⟩
            rw [hW5] at K0 K1 NF RBF RIF
            rw [hW5]
            clear hW5
            obtain ⟨xb, hxb⟩ : ∃ xb, w3.heap.size = xb := ⟨_, rfl⟩
            rw [hxb] at K0 K1 zx
            rw [hxb]
            clear hxb
          rotate_left 1
          focus
            have c0_5 := N2.out.c0
            have c1_5 := N2.out.c1
            have d0_5 := N2.out.d0
            have d1_5 := N2.out.d1
            have d2_5 := N2.out.d2
            have d3_5 := N2.out.d3
            have c0_5a := ((Ext.refl ((w1.alloc (.cells #[.int .i64 b.A, .int .i64 b.X, .int .i64 b.B, .int .i64 b.Y] 42)))).alloc (.cells #[.slice none 0 0, .slice none 0 0] 27)).cell1 c0_5
            have c1_5a := ((Ext.refl ((w1.alloc (.cells #[.int .i64 b.A, .int .i64 b.X, .int .i64 b.B, .int .i64 b.Y] 42)))).alloc (.cells #[.slice none 0 0, .slice none 0 0] 27)).cell1 c1_5
            have d0_5a := ((Ext.refl ((w1.alloc (.cells #[.int .i64 b.A, .int .i64 b.X, .int .i64 b.B, .int .i64 b.Y] 42)))).alloc (.cells #[.slice none 0 0, .slice none 0 0] 27)).cell1 d0_5
            have d1_5a := ((Ext.refl ((w1.alloc (.cells #[.int .i64 b.A, .int .i64 b.X, .int .i64 b.B, .int .i64 b.Y] 42)))).alloc (.cells #[.slice none 0 0, .slice none 0 0] 27)).cell1 d1_5
            have d2_5a := ((Ext.refl ((w1.alloc (.cells #[.int .i64 b.A, .int .i64 b.X, .int .i64 b.B, .int .i64 b.Y] 42)))).alloc (.cells #[.slice none 0 0, .slice none 0 0] 27)).cell1 d2_5
            have d3_5a := ((Ext.refl ((w1.alloc (.cells #[.int .i64 b.A, .int .i64 b.X, .int .i64 b.B, .int .i64 b.Y] 42)))).alloc (.cells #[.slice none 0 0, .slice none 0 0] 27)).cell1 d3_5
            go_simp; (try simp only [Act.put, List.setIfInBounds_toArray, List.set_cons_zero, List.set_cons_succ]); (try go_wp2_with fail); refine hK.out _ _ ?_ (fun hHeld => ?_); (focus exact ⟨c0_5a, c1_5a, d0_5a, d1_5a, d2_5a, d3_5a⟩); clear hK K; (try simp only [Act.put, List.setIfInBounds_toArray, List.set_cons_zero, List.set_cons_succ])
            clear c0_5a c1_5a d0_5a d1_5a d2_5a d3_5a
            have bx5 := own_low' (own_block ((w1.alloc (.cells #[.int .i64 b.A, .int .i64 b.X, .int .i64 b.B, .int .i64 b.Y] 42))) 27 [.slice none 0 0, .slice none 0 0]) (Nat.zero_le _)
            (try simp only [World.size_alloc, World.size_drew] at bx5)
            have lt5 := N2.out.lt
            (try simp only [World.size_alloc, World.size_drew] at lt5)
            have ri5 := Lib.hid (((Ext.refl ((w1.alloc (.cells #[.int .i64 b.A, .int .i64 b.X, .int .i64 b.B, .int .i64 b.Y] 42)))).alloc (.cells #[.slice none 0 0, .slice none 0 0] 27)).own ri2.out)
            have rb5 := Lib.hid (((Ext.refl ((w1.alloc (.cells #[.int .i64 b.A, .int .i64 b.X, .int .i64 b.B, .int .i64 b.Y] 42)))).alloc (.cells #[.slice none 0 0, .slice none 0 0] 27)).own rb2.out)
            have rv5 := Lib.hid (((Ext.refl ((w1.alloc (.cells #[.int .i64 b.A, .int .i64 b.X, .int .i64 b.B, .int .i64 b.Y] 42)))).alloc (.cells #[.slice none 0 0, .slice none 0 0] 27)).own rvn2.out)
            have N5 := Lib.hid (N2.out.step ((Ext.refl ((w1.alloc (.cells #[.int .i64 b.A, .int .i64 b.X, .int .i64 b.B, .int .i64 b.Y] 42)))).alloc (.cells #[.slice none 0 0, .slice none 0 0] 27)))
            have BXn5 := Lib.hid bx5
            clear bx5 c0_5 c1_5 d0_5 d1_5 d2_5 d3_5
            have c0_6 := N5.out.c0
            have c1_6 := N5.out.c1
            have d0_6 := N5.out.d0
            have d1_6 := N5.out.d1
            have d2_6 := N5.out.d2
            have d3_6 := N5.out.d3
            refine wpAnyH_ready (rs := [9]) (by kernel_rfl) (by simp) ?_; refine AllReadyH.cons rfl (fun K hK => ?_) AllReadyH.nil; go_simp; (try simp only [Act.put, List.setIfInBounds_toArray, List.set_cons_zero, List.set_cons_succ]); (try go_wp2_with (go_at_call 36; refine (InsertBan_any A2 m c2 kp w1.heap.size (w.heap.size + 3) _ bs b _ HPL.out hm N5.out.lt HB.out rb5.out rv5.out NE.out).mono ?_; rintro e w6 ⟨A9, c9, rfl, op6, gp6⟩; have N6 := Lib.hid (N5.out.grow gp6 rb5.out); have ri6 := Lib.hid (ri5.out.kept gp6 (own_types ri5.out rb5.out intBan)); have BX6 := Lib.hid (BXn5.out.kept gp6 (own_types BXn5.out rb5.out tabBan)); have rb6 := Lib.hid op6; clear op6 gp6; have c0_6k := N6.out.c0; have c1_6k := N6.out.c1; have d0_6k := N6.out.d0; have d1_6k := N6.out.d1; have d2_6k := N6.out.d2; have d3_6k := N6.out.d3)); refine hK.out _ _ ?_ (fun hHeld => ?_); (focus exact ⟨c0_6k, c1_6k, d0_6k, d1_6k, d2_6k, d3_6k⟩); clear hK K; (try simp only [Act.put, List.setIfInBounds_toArray, List.set_cons_zero, List.set_cons_succ])
            (refine wpAnyH_take (i := 10) (v := ?_) rfl (by kernel_rfl) (by kernel_rfl) (by kernel_rfl) (fun _ _ _ h => h) (Or.inl ⟨by rfl, ?_⟩) (by assumption) ?_); rotate_left 1; (focus (intro w hSw; (try dsimp only at hSw); go_simp; (try with_reducible rfl))); (try simp only [Act.put, List.setIfInBounds_toArray, List.set_cons_zero, List.set_cons_succ])
            clear c0_6 c1_6 d0_6 d1_6 d2_6 d3_6
            obtain ⟨k0, k1, gx⟩ := tab_stored BX6.out (.slice A1 n c1) (.slice A9 (m + 1) c9)
            have zx : w.heap.size + 2 < (w1.heap.size + 1) := lt5
            have NF := Lib.hid (N6.out.row gx zx)
            have RBF := Lib.hid (rb6.out.kept gx (own_types rb6.out BX6.out banTab))
            have RIF := Lib.hid (ri6.out.kept gx (own_types ri6.out BX6.out intTab))
            have fc0 := NF.out.c0
            have fc1 := NF.out.c1
            have fd0 := NF.out.d0
            have fd1 := NF.out.d1
            have fd2 := NF.out.d2
            have fd3 := NF.out.d3
            refine wpAnyH_ready (rs := [12]) (by kernel_rfl) (by simp) ?_; refine AllReadyH.cons rfl (fun K hK => ?_) AllReadyH.nil; refine step_store rfl 27 (.tmp 8) (.tmp 29) rfl (w1.heap.size + 1) 0 [.slice A1 n c1, .slice A9 (m + 1) c9] rfl rfl (own_there BX6.out 0 2 (by simp)) sizeTab rfl rfl ?_; (try simp only [Act.put, List.setIfInBounds_toArray, List.set_cons_zero, List.set_cons_succ]); refine hK.out _ _ ?_ (fun hHeld => ?_); (focus exact ⟨fc0, fc1, fd0, fd1, fd2, fd3⟩); clear hK K; (try simp only [Act.put, List.setIfInBounds_toArray, List.set_cons_zero, List.set_cons_succ])
            refine wpAnyH_done (by kernel_rfl) ?_ _
            clear gx fc0 fc1 fd0 fd1 fd2 fd3 c0_6k c1_6k d0_6k d1_6k d2_6k d3_6k
            have K0 := Lib.hid k0
            have K1 := Lib.hid k1
            clear k0 k1
            obtain ⟨W5, hW5⟩ : ∃ W5, w6.setCells (w1.heap.size + 1) 0 [.slice A1 n c1, .slice A9 (m + 1) c9] = W5 := ⟨_, rfl⟩
            rw [hW5] at K0 K1 NF RBF RIF
            rw [hW5]
            clear hW5
            obtain ⟨xb, hxb⟩ : ∃ xb, (w1.heap.size + 1) = xb := ⟨_, rfl⟩
            rw [hxb] at K0 K1 zx
            rw [hxb]
            clear hxb
          rotate_left 1
        rotate_left 2
        focus
          have c0_7 := N1.out.c0
          have c1_7 := N1.out.c1
          have d0_7 := N1.out.d0
          have d1_7 := N1.out.d1
          have d2_7 := N1.out.d2
          have d3_7 := N1.out.d3
          have c0_7a := ((Ext.refl (w1)).alloc (.cells #[.slice none 0 0, .slice none 0 0] 27)).cell1 c0_7
          have c1_7a := ((Ext.refl (w1)).alloc (.cells #[.slice none 0 0, .slice none 0 0] 27)).cell1 c1_7
          have d0_7a := ((Ext.refl (w1)).alloc (.cells #[.slice none 0 0, .slice none 0 0] 27)).cell1 d0_7
          have d1_7a := ((Ext.refl (w1)).alloc (.cells #[.slice none 0 0, .slice none 0 0] 27)).cell1 d1_7
          have d2_7a := ((Ext.refl (w1)).alloc (.cells #[.slice none 0 0, .slice none 0 0] 27)).cell1 d2_7
          have d3_7a := ((Ext.refl (w1)).alloc (.cells #[.slice none 0 0, .slice none 0 0] 27)).cell1 d3_7
          go_simp; (try simp only [Act.put, List.setIfInBounds_toArray, List.set_cons_zero, List.set_cons_succ]); (try go_wp2_with fail); refine hK.out _ _ ?_ (fun hHeld => ?_); (focus exact ⟨c0_7a, c1_7a, d0_7a, d1_7a, d2_7a, d3_7a⟩); clear hK K; (try simp only [Act.put, List.setIfInBounds_toArray, List.set_cons_zero, List.set_cons_succ])
          clear c0_7a c1_7a d0_7a d1_7a d2_7a d3_7a
          have bx7 := own_low' (own_block (w1) 27 [.slice none 0 0, .slice none 0 0]) (Nat.zero_le _)
          (try simp only [World.size_alloc, World.size_drew] at bx7)
          have lt7 := N1.out.lt
          (try simp only [World.size_alloc, World.size_drew] at lt7)
          have ri7 := Lib.hid (((Ext.refl (w1)).alloc (.cells #[.slice none 0 0, .slice none 0 0] 27)).own ri1.out)
          have rb7 := Lib.hid (((Ext.refl (w1)).alloc (.cells #[.slice none 0 0, .slice none 0 0] 27)).own rbn1.out)
          have N7 := Lib.hid (N1.out.step ((Ext.refl (w1)).alloc (.cells #[.slice none 0 0, .slice none 0 0] 27)))
          have BXn7 := Lib.hid bx7
          clear bx7 c0_7 c1_7 d0_7 d1_7 d2_7 d3_7
          have ne8 : ∀ k, Value.ownBlock (.slice A2 m c2) = some k → k ≠ (w1.heap.size + 1) := fun k hk => by have hh := (rb7.out.lt k hk).2; (try simp only [World.size_alloc, World.size_drew] at hh); omega
          have NE := Lib.hid ne8
          clear ne8
          have c0_8 := N7.out.c0
          have c1_8 := N7.out.c1
          have d0_8 := N7.out.d0
          have d1_8 := N7.out.d1
          have d2_8 := N7.out.d2
          have d3_8 := N7.out.d3
          have c0_8a := ((Ext.refl ((w1.alloc (.cells #[.slice none 0 0, .slice none 0 0] 27)))).alloc (.cells #[.int .i64 b.A, .int .i64 b.X, .int .i64 b.B, .int .i64 b.Y] 42)).cell1 c0_8
          have c1_8a := ((Ext.refl ((w1.alloc (.cells #[.slice none 0 0, .slice none 0 0] 27)))).alloc (.cells #[.int .i64 b.A, .int .i64 b.X, .int .i64 b.B, .int .i64 b.Y] 42)).cell1 c1_8
          have d0_8a := ((Ext.refl ((w1.alloc (.cells #[.slice none 0 0, .slice none 0 0] 27)))).alloc (.cells #[.int .i64 b.A, .int .i64 b.X, .int .i64 b.B, .int .i64 b.Y] 42)).cell1 d0_8
          have d1_8a := ((Ext.refl ((w1.alloc (.cells #[.slice none 0 0, .slice none 0 0] 27)))).alloc (.cells #[.int .i64 b.A, .int .i64 b.X, .int .i64 b.B, .int .i64 b.Y] 42)).cell1 d1_8
          have d2_8a := ((Ext.refl ((w1.alloc (.cells #[.slice none 0 0, .slice none 0 0] 27)))).alloc (.cells #[.int .i64 b.A, .int .i64 b.X, .int .i64 b.B, .int .i64 b.Y] 42)).cell1 d2_8
          have d3_8a := ((Ext.refl ((w1.alloc (.cells #[.slice none 0 0, .slice none 0 0] 27)))).alloc (.cells #[.int .i64 b.A, .int .i64 b.X, .int .i64 b.B, .int .i64 b.Y] 42)).cell1 d3_8
          refine wpAnyH_ready (rs := [8]) (by kernel_rfl) (by simp) ?_; refine AllReadyH.cons rfl (fun K hK => ?_) AllReadyH.nil; go_simp; (try simp only [Act.put, List.setIfInBounds_toArray, List.set_cons_zero, List.set_cons_succ]); (try go_wp2_with fail); refine hK.out _ _ ?_ (fun hHeld => ?_); (focus exact ⟨c0_8a, c1_8a, d0_8a, d1_8a, d2_8a, d3_8a⟩); clear hK K; (try simp only [Act.put, List.setIfInBounds_toArray, List.set_cons_zero, List.set_cons_succ])
          clear c0_8a c1_8a d0_8a d1_8a d2_8a d3_8a
          have bx8 := own_low' (own_block ((w1.alloc (.cells #[.slice none 0 0, .slice none 0 0] 27))) 42 [.int .i64 b.A, .int .i64 b.X, .int .i64 b.B, .int .i64 b.Y]) (Nat.zero_le _)
          (try simp only [World.size_alloc, World.size_drew] at bx8)
          have lt8 := N7.out.lt
          (try simp only [World.size_alloc, World.size_drew] at lt8)
          have ri8 := Lib.hid (((Ext.refl ((w1.alloc (.cells #[.slice none 0 0, .slice none 0 0] 27)))).alloc (.cells #[.int .i64 b.A, .int .i64 b.X, .int .i64 b.B, .int .i64 b.Y] 42)).own ri7.out)
          have rb8 := Lib.hid (((Ext.refl ((w1.alloc (.cells #[.slice none 0 0, .slice none 0 0] 27)))).alloc (.cells #[.int .i64 b.A, .int .i64 b.X, .int .i64 b.B, .int .i64 b.Y] 42)).own rb7.out)
          have BX8 := Lib.hid (((Ext.refl ((w1.alloc (.cells #[.slice none 0 0, .slice none 0 0] 27)))).alloc (.cells #[.int .i64 b.A, .int .i64 b.X, .int .i64 b.B, .int .i64 b.Y] 42)).own BXn7.out)
          have N8 := Lib.hid (N7.out.step ((Ext.refl ((w1.alloc (.cells #[.slice none 0 0, .slice none 0 0] 27)))).alloc (.cells #[.int .i64 b.A, .int .i64 b.X, .int .i64 b.B, .int .i64 b.Y] 42)))
          have rvn8 := Lib.hid bx8
          clear bx8 c0_8 c1_8 d0_8 d1_8 d2_8 d3_8
          have c0_9 := N8.out.c0
          have c1_9 := N8.out.c1
          have d0_9 := N8.out.d0
          have d1_9 := N8.out.d1
          have d2_9 := N8.out.d2
          have d3_9 := N8.out.d3
          refine wpAnyH_ready (rs := [9]) (by kernel_rfl) (by simp) ?_; refine AllReadyH.cons rfl (fun K hK => ?_) AllReadyH.nil; go_simp; (try simp only [Act.put, List.setIfInBounds_toArray, List.set_cons_zero, List.set_cons_succ]); (try go_wp2_with (go_at_call 36; refine (InsertBan_any A2 m c2 kp (w1.heap.size + 1) (w.heap.size + 3) _ bs b _ HPL.out hm N8.out.lt HB.out rb8.out rvn8.out NE.out).mono ?_; rintro e w9 ⟨A9, c9, rfl, op9, gp9⟩; have N9 := Lib.hid (N8.out.grow gp9 rb8.out); have ri9 := Lib.hid (ri8.out.kept gp9 (own_types ri8.out rb8.out intBan)); have BX9 := Lib.hid (BX8.out.kept gp9 (own_types BX8.out rb8.out tabBan)); have rb9 := Lib.hid op9; clear op9 gp9; have c0_9k := N9.out.c0; have c1_9k := N9.out.c1; have d0_9k := N9.out.d0; have d1_9k := N9.out.d1; have d2_9k := N9.out.d2; have d3_9k := N9.out.d3)); refine hK.out _ _ ?_ (fun hHeld => ?_); (focus exact ⟨c0_9k, c1_9k, d0_9k, d1_9k, d2_9k, d3_9k⟩); clear hK K; (try simp only [Act.put, List.setIfInBounds_toArray, List.set_cons_zero, List.set_cons_succ])
          (refine wpAnyH_take (i := 10) (v := ?_) rfl (by kernel_rfl) (by kernel_rfl) (by kernel_rfl) (fun _ _ _ h => h) (Or.inl ⟨by rfl, ?_⟩) (by assumption) ?_); rotate_left 1; (focus (intro w hSw; (try dsimp only at hSw); go_simp; (try with_reducible rfl))); (try simp only [Act.put, List.setIfInBounds_toArray, List.set_cons_zero, List.set_cons_succ])
          clear c0_9 c1_9 d0_9 d1_9 d2_9 d3_9
          obtain ⟨k0, k1, gx⟩ := tab_stored BX9.out (.slice A1 n c1) (.slice A9 (m + 1) c9)
          have zx : w.heap.size + 2 < w1.heap.size := lt7
          have NF := Lib.hid (N9.out.row gx zx)
          have RBF := Lib.hid (rb9.out.kept gx (own_types rb9.out BX9.out banTab))
          have RIF := Lib.hid (ri9.out.kept gx (own_types ri9.out BX9.out intTab))
          have fc0 := NF.out.c0
          have fc1 := NF.out.c1
          have fd0 := NF.out.d0
          have fd1 := NF.out.d1
          have fd2 := NF.out.d2
          have fd3 := NF.out.d3
          refine wpAnyH_ready (rs := [12]) (by kernel_rfl) (by simp) ?_; refine AllReadyH.cons rfl (fun K hK => ?_) AllReadyH.nil; refine step_store rfl 27 (.tmp 8) (.tmp 29) rfl w1.heap.size 0 [.slice A1 n c1, .slice A9 (m + 1) c9] rfl rfl (own_there BX9.out 0 2 (by simp)) sizeTab rfl rfl ?_; (try simp only [Act.put, List.setIfInBounds_toArray, List.set_cons_zero, List.set_cons_succ]); refine hK.out _ _ ?_ (fun hHeld => ?_); (focus exact ⟨fc0, fc1, fd0, fd1, fd2, fd3⟩); clear hK K; (try simp only [Act.put, List.setIfInBounds_toArray, List.set_cons_zero, List.set_cons_succ])
          refine wpAnyH_done (by kernel_rfl) ?_ _
          clear gx fc0 fc1 fd0 fd1 fd2 fd3 c0_9k c1_9k d0_9k d1_9k d2_9k d3_9k
          have K0 := Lib.hid k0
          have K1 := Lib.hid k1
          clear k0 k1
          obtain ⟨W5, hW5⟩ : ∃ W5, w9.setCells w1.heap.size 0 [.slice A1 n c1, .slice A9 (m + 1) c9] = W5 := ⟨_, rfl⟩
          rw [hW5] at K0 K1 NF RBF RIF
          rw [hW5]
          clear hW5
          obtain ⟨xb, hxb⟩ : ∃ xb, w1.heap.size = xb := ⟨_, rfl⟩
          rw [hxb] at K0 K1 zx
          rw [hxb]
          clear hxb
        rotate_left 1
      rotate_left 3
      focus
        have c0_10 := N0.out.c0
        have c1_10 := N0.out.c1
        have d0_10 := N0.out.d0
        have d1_10 := N0.out.d1
        have d2_10 := N0.out.d2
        have d3_10 := N0.out.d3
        have c0_10a := ((Ext.refl (w0)).alloc (.cells #[.int .i64 b.A, .int .i64 b.X, .int .i64 b.B, .int .i64 b.Y] 42)).cell1 c0_10
        have c1_10a := ((Ext.refl (w0)).alloc (.cells #[.int .i64 b.A, .int .i64 b.X, .int .i64 b.B, .int .i64 b.Y] 42)).cell1 c1_10
        have d0_10a := ((Ext.refl (w0)).alloc (.cells #[.int .i64 b.A, .int .i64 b.X, .int .i64 b.B, .int .i64 b.Y] 42)).cell1 d0_10
        have d1_10a := ((Ext.refl (w0)).alloc (.cells #[.int .i64 b.A, .int .i64 b.X, .int .i64 b.B, .int .i64 b.Y] 42)).cell1 d1_10
        have d2_10a := ((Ext.refl (w0)).alloc (.cells #[.int .i64 b.A, .int .i64 b.X, .int .i64 b.B, .int .i64 b.Y] 42)).cell1 d2_10
        have d3_10a := ((Ext.refl (w0)).alloc (.cells #[.int .i64 b.A, .int .i64 b.X, .int .i64 b.B, .int .i64 b.Y] 42)).cell1 d3_10
        go_simp; (try simp only [Act.put, List.setIfInBounds_toArray, List.set_cons_zero, List.set_cons_succ]); (try go_wp2_with fail); refine hK.out _ _ ?_ (fun hHeld => ?_); (focus exact ⟨c0_10a, c1_10a, d0_10a, d1_10a, d2_10a, d3_10a⟩); clear hK K; (try simp only [Act.put, List.setIfInBounds_toArray, List.set_cons_zero, List.set_cons_succ])
        clear c0_10a c1_10a d0_10a d1_10a d2_10a d3_10a
        have bx10 := own_low' (own_block (w0) 42 [.int .i64 b.A, .int .i64 b.X, .int .i64 b.B, .int .i64 b.Y]) (Nat.zero_le _)
        (try simp only [World.size_alloc, World.size_drew] at bx10)
        have lt10 := N0.out.lt
        (try simp only [World.size_alloc, World.size_drew] at lt10)
        have ri10 := Lib.hid (((Ext.refl (w0)).alloc (.cells #[.int .i64 b.A, .int .i64 b.X, .int .i64 b.B, .int .i64 b.Y] 42)).own rin0.out)
        have N10 := Lib.hid (N0.out.step ((Ext.refl (w0)).alloc (.cells #[.int .i64 b.A, .int .i64 b.X, .int .i64 b.B, .int .i64 b.Y] 42)))
        have rvn10 := Lib.hid bx10
        clear bx10 c0_10 c1_10 d0_10 d1_10 d2_10 d3_10
        refine wpAnyH_ready (rs := [5, 11]) (by kernel_rfl) (by simp) ?_; refine AllReadyH.cons rfl (fun K hK => ?_) (AllReadyH.cons rfl (fun K hK => ?_) (AllReadyH.nil))
        focus
          have c0_11 := N10.out.c0
          have c1_11 := N10.out.c1
          have d0_11 := N10.out.d0
          have d1_11 := N10.out.d1
          have d2_11 := N10.out.d2
          have d3_11 := N10.out.d3
          go_simp; (try simp only [Act.put, List.setIfInBounds_toArray, List.set_cons_zero, List.set_cons_succ]); (try go_wp2_with (go_at_call 24; refine (CloneB_any B m d bs _ hm (h.bl.rd.ext N10.out.ext)).mono ?_; rintro e w11 ⟨A2, c2, rfl, oc11, he1⟩)); refine hK.out _ _ ?_ (fun hHeld => ?_); (focus exact ⟨he1.cell1 c0_11, he1.cell1 c1_11, he1.cell1 d0_11, he1.cell1 d1_11, he1.cell1 d2_11, he1.cell1 d3_11⟩); clear hK K; (try simp only [Act.put, List.setIfInBounds_toArray, List.set_cons_zero, List.set_cons_succ])
          have ne11 : ∀ k, Value.ownBlock (.slice A2 m c2) = some k → k ≠ w0.heap.size := fun k hk => by have hh := (oc11.lt k hk).1; have h2 := (rvn10.out.lt _ rfl).2; (try simp only [World.size_alloc, World.size_drew] at hh); (try simp only [World.size_alloc, World.size_drew] at h2); omega
          have NE := Lib.hid ne11
          clear ne11
          have rbn11 := Lib.hid (own_low' oc11 (show w.heap.size + 3 ≤ _ from N10.out.lt))
          have ri11 := Lib.hid (he1.own ri10.out)
          have rv11 := Lib.hid (he1.own rvn10.out)
          have N11 := Lib.hid (N10.out.step he1)
          clear oc11 he1 c0_11 c1_11 d0_11 d1_11 d2_11 d3_11
          refine wpAnyH_ready (rs := [9, 11]) (by kernel_rfl) (by simp) ?_; refine AllReadyH.cons rfl (fun K hK => ?_) (AllReadyH.cons rfl (fun K hK => ?_) (AllReadyH.nil))
          focus
            have c0_12 := N11.out.c0
            have c1_12 := N11.out.c1
            have d0_12 := N11.out.d0
            have d1_12 := N11.out.d1
            have d2_12 := N11.out.d2
            have d3_12 := N11.out.d3
            go_simp; (try simp only [Act.put, List.setIfInBounds_toArray, List.set_cons_zero, List.set_cons_succ]); (try go_wp2_with (go_at_call 36; refine (InsertBan_any A2 m c2 kp w0.heap.size (w.heap.size + 3) _ bs b _ HPL.out hm N11.out.lt HB.out rbn11.out rv11.out NE.out).mono ?_; rintro e w12 ⟨A9, c9, rfl, op12, gp12⟩; have N12 := Lib.hid (N11.out.grow gp12 rbn11.out); have ri12 := Lib.hid (ri11.out.kept gp12 (own_types ri11.out rbn11.out intBan)); have rb12 := Lib.hid op12; clear op12 gp12; have c0_12k := N12.out.c0; have c1_12k := N12.out.c1; have d0_12k := N12.out.d0; have d1_12k := N12.out.d1; have d2_12k := N12.out.d2; have d3_12k := N12.out.d3)); refine hK.out _ _ ?_ (fun hHeld => ?_); (focus exact ⟨c0_12k, c1_12k, d0_12k, d1_12k, d2_12k, d3_12k⟩); clear hK K; (try simp only [Act.put, List.setIfInBounds_toArray, List.set_cons_zero, List.set_cons_succ])
            (refine wpAnyH_take (i := 10) (v := ?_) rfl (by kernel_rfl) (by kernel_rfl) (by kernel_rfl) (fun _ _ _ h => h) (Or.inl ⟨by rfl, ?_⟩) (by assumption) ?_); rotate_left 1; (focus (intro w hSw; (try dsimp only at hSw); go_simp; (try with_reducible rfl))); (try simp only [Act.put, List.setIfInBounds_toArray, List.set_cons_zero, List.set_cons_succ])
            clear c0_12 c1_12 d0_12 d1_12 d2_12 d3_12
            have c0_13 := N12.out.c0
            have c1_13 := N12.out.c1
            have d0_13 := N12.out.d0
            have d1_13 := N12.out.d1
            have d2_13 := N12.out.d2
            have d3_13 := N12.out.d3
            have c0_13a := ((Ext.refl (w12)).alloc (.cells #[.slice none 0 0, .slice none 0 0] 27)).cell1 c0_13
            have c1_13a := ((Ext.refl (w12)).alloc (.cells #[.slice none 0 0, .slice none 0 0] 27)).cell1 c1_13
            have d0_13a := ((Ext.refl (w12)).alloc (.cells #[.slice none 0 0, .slice none 0 0] 27)).cell1 d0_13
            have d1_13a := ((Ext.refl (w12)).alloc (.cells #[.slice none 0 0, .slice none 0 0] 27)).cell1 d1_13
            have d2_13a := ((Ext.refl (w12)).alloc (.cells #[.slice none 0 0, .slice none 0 0] 27)).cell1 d2_13
            have d3_13a := ((Ext.refl (w12)).alloc (.cells #[.slice none 0 0, .slice none 0 0] 27)).cell1 d3_13
            refine wpAnyH_ready (rs := [11]) (by kernel_rfl) (by simp) ?_; refine AllReadyH.cons rfl (fun K hK => ?_) AllReadyH.nil; go_simp; (try simp only [Act.put, List.setIfInBounds_toArray, List.set_cons_zero, List.set_cons_succ]); (try go_wp2_with fail); refine hK.out _ _ ?_ (fun hHeld => ?_); (focus exact ⟨c0_13a, c1_13a, d0_13a, d1_13a, d2_13a, d3_13a⟩); clear hK K; (try simp only [Act.put, List.setIfInBounds_toArray, List.set_cons_zero, List.set_cons_succ])
            clear c0_13a c1_13a d0_13a d1_13a d2_13a d3_13a
            have bx13 := own_low' (own_block (w12) 27 [.slice none 0 0, .slice none 0 0]) (Nat.zero_le _)
            (try simp only [World.size_alloc, World.size_drew] at bx13)
            have lt13 := N12.out.lt
            (try simp only [World.size_alloc, World.size_drew] at lt13)
            have ri13 := Lib.hid (((Ext.refl (w12)).alloc (.cells #[.slice none 0 0, .slice none 0 0] 27)).own ri12.out)
            have rb13 := Lib.hid (((Ext.refl (w12)).alloc (.cells #[.slice none 0 0, .slice none 0 0] 27)).own rb12.out)
            have N13 := Lib.hid (N12.out.step ((Ext.refl (w12)).alloc (.cells #[.slice none 0 0, .slice none 0 0] 27)))
            have BXn13 := Lib.hid bx13
            clear bx13 c0_13 c1_13 d0_13 d1_13 d2_13 d3_13
            obtain ⟨k0, k1, gx⟩ := tab_stored BXn13.out (.slice A1 n c1) (.slice A9 (m + 1) c9)
            have zx : w.heap.size + 2 < w12.heap.size := lt13
            have NF := Lib.hid (N13.out.row gx zx)
            have RBF := Lib.hid (rb13.out.kept gx (own_types rb13.out BXn13.out banTab))
            have RIF := Lib.hid (ri13.out.kept gx (own_types ri13.out BXn13.out intTab))
            have fc0 := NF.out.c0
            have fc1 := NF.out.c1
            have fd0 := NF.out.d0
            have fd1 := NF.out.d1
            have fd2 := NF.out.d2
            have fd3 := NF.out.d3
            refine wpAnyH_ready (rs := [12]) (by kernel_rfl) (by simp) ?_; refine AllReadyH.cons rfl (fun K hK => ?_) AllReadyH.nil; refine step_store rfl 27 (.tmp 8) (.tmp 29) rfl w12.heap.size 0 [.slice A1 n c1, .slice A9 (m + 1) c9] rfl rfl (own_there BXn13.out 0 2 (by simp)) sizeTab rfl rfl ?_; (try simp only [Act.put, List.setIfInBounds_toArray, List.set_cons_zero, List.set_cons_succ]); refine hK.out _ _ ?_ (fun hHeld => ?_); (focus exact ⟨fc0, fc1, fd0, fd1, fd2, fd3⟩); clear hK K; (try simp only [Act.put, List.setIfInBounds_toArray, List.set_cons_zero, List.set_cons_succ])
            refine wpAnyH_done (by kernel_rfl) ?_ _
            clear gx fc0 fc1 fd0 fd1 fd2 fd3 c0_12k c1_12k d0_12k d1_12k d2_12k d3_12k
            have K0 := Lib.hid k0
            have K1 := Lib.hid k1
            clear k0 k1
            obtain ⟨W5, hW5⟩ : ∃ W5, (w12.alloc (.cells #[.slice none 0 0, .slice none 0 0] 27)).setCells w12.heap.size 0 [.slice A1 n c1, .slice A9 (m + 1) c9] = W5 := ⟨_, rfl⟩
            rw [hW5] at K0 K1 NF RBF RIF
            rw [hW5]
            clear hW5
            obtain ⟨xb, hxb⟩ : ∃ xb, w12.heap.size = xb := ⟨_, rfl⟩
            rw [hxb] at K0 K1 zx
            rw [hxb]
            clear hxb
          rotate_left 1
          focus
            have c0_14 := N11.out.c0
            have c1_14 := N11.out.c1
            have d0_14 := N11.out.d0
            have d1_14 := N11.out.d1
            have d2_14 := N11.out.d2
            have d3_14 := N11.out.d3
            have c0_14a := ((Ext.refl (w11)).alloc (.cells #[.slice none 0 0, .slice none 0 0] 27)).cell1 c0_14
            have c1_14a := ((Ext.refl (w11)).alloc (.cells #[.slice none 0 0, .slice none 0 0] 27)).cell1 c1_14
            have d0_14a := ((Ext.refl (w11)).alloc (.cells #[.slice none 0 0, .slice none 0 0] 27)).cell1 d0_14
            have d1_14a := ((Ext.refl (w11)).alloc (.cells #[.slice none 0 0, .slice none 0 0] 27)).cell1 d1_14
            have d2_14a := ((Ext.refl (w11)).alloc (.cells #[.slice none 0 0, .slice none 0 0] 27)).cell1 d2_14
            have d3_14a := ((Ext.refl (w11)).alloc (.cells #[.slice none 0 0, .slice none 0 0] 27)).cell1 d3_14
            go_simp; (try simp only [Act.put, List.setIfInBounds_toArray, List.set_cons_zero, List.set_cons_succ]); (try go_wp2_with fail); refine hK.out _ _ ?_ (fun hHeld => ?_); (focus exact ⟨c0_14a, c1_14a, d0_14a, d1_14a, d2_14a, d3_14a⟩); clear hK K; (try simp only [Act.put, List.setIfInBounds_toArray, List.set_cons_zero, List.set_cons_succ])
            clear c0_14a c1_14a d0_14a d1_14a d2_14a d3_14a
            have bx14 := own_low' (own_block (w11) 27 [.slice none 0 0, .slice none 0 0]) (Nat.zero_le _)
            (try simp only [World.size_alloc, World.size_drew] at bx14)
            have lt14 := N11.out.lt
            (try simp only [World.size_alloc, World.size_drew] at lt14)
            have ri14 := Lib.hid (((Ext.refl (w11)).alloc (.cells #[.slice none 0 0, .slice none 0 0] 27)).own ri11.out)
            have rv14 := Lib.hid (((Ext.refl (w11)).alloc (.cells #[.slice none 0 0, .slice none 0 0] 27)).own rv11.out)
            have rb14 := Lib.hid (((Ext.refl (w11)).alloc (.cells #[.slice none 0 0, .slice none 0 0] 27)).own rbn11.out)
            have N14 := Lib.hid (N11.out.step ((Ext.refl (w11)).alloc (.cells #[.slice none 0 0, .slice none 0 0] 27)))
            have BXn14 := Lib.hid bx14
            clear bx14 c0_14 c1_14 d0_14 d1_14 d2_14 d3_14
            have c0_15 := N14.out.c0
            have c1_15 := N14.out.c1
            have d0_15 := N14.out.d0
            have d1_15 := N14.out.d1
            have d2_15 := N14.out.d2
            have d3_15 := N14.out.d3
            refine wpAnyH_ready (rs := [9]) (by kernel_rfl) (by simp) ?_; refine AllReadyH.cons rfl (fun K hK => ?_) AllReadyH.nil; go_simp; (try simp only [Act.put, List.setIfInBounds_toArray, List.set_cons_zero, List.set_cons_succ]); (try go_wp2_with (go_at_call 36; refine (InsertBan_any A2 m c2 kp w0.heap.size (w.heap.size + 3) _ bs b _ HPL.out hm N14.out.lt HB.out rb14.out rv14.out NE.out).mono ?_; rintro e w15 ⟨A9, c9, rfl, op15, gp15⟩; have N15 := Lib.hid (N14.out.grow gp15 rb14.out); have ri15 := Lib.hid (ri14.out.kept gp15 (own_types ri14.out rb14.out intBan)); have BX15 := Lib.hid (BXn14.out.kept gp15 (own_types BXn14.out rb14.out tabBan)); have rb15 := Lib.hid op15; clear op15 gp15; have c0_15k := N15.out.c0; have c1_15k := N15.out.c1; have d0_15k := N15.out.d0; have d1_15k := N15.out.d1; have d2_15k := N15.out.d2; have d3_15k := N15.out.d3)); refine hK.out _ _ ?_ (fun hHeld => ?_); (focus exact ⟨c0_15k, c1_15k, d0_15k, d1_15k, d2_15k, d3_15k⟩); clear hK K; (try simp only [Act.put, List.setIfInBounds_toArray, List.set_cons_zero, List.set_cons_succ])
            (refine wpAnyH_take (i := 10) (v := ?_) rfl (by kernel_rfl) (by kernel_rfl) (by kernel_rfl) (fun _ _ _ h => h) (Or.inl ⟨by rfl, ?_⟩) (by assumption) ?_); rotate_left 1; (focus (intro w hSw; (try dsimp only at hSw); go_simp; (try with_reducible rfl))); (try simp only [Act.put, List.setIfInBounds_toArray, List.set_cons_zero, List.set_cons_succ])
            clear c0_15 c1_15 d0_15 d1_15 d2_15 d3_15
            obtain ⟨k0, k1, gx⟩ := tab_stored BX15.out (.slice A1 n c1) (.slice A9 (m + 1) c9)
            have zx : w.heap.size + 2 < w11.heap.size := lt14
            have NF := Lib.hid (N15.out.row gx zx)
            have RBF := Lib.hid (rb15.out.kept gx (own_types rb15.out BX15.out banTab))
            have RIF := Lib.hid (ri15.out.kept gx (own_types ri15.out BX15.out intTab))
            have fc0 := NF.out.c0
            have fc1 := NF.out.c1
            have fd0 := NF.out.d0
            have fd1 := NF.out.d1
            have fd2 := NF.out.d2
            have fd3 := NF.out.d3
            refine wpAnyH_ready (rs := [12]) (by kernel_rfl) (by simp) ?_; refine AllReadyH.cons rfl (fun K hK => ?_) AllReadyH.nil; refine step_store rfl 27 (.tmp 8) (.tmp 29) rfl w11.heap.size 0 [.slice A1 n c1, .slice A9 (m + 1) c9] rfl rfl (own_there BX15.out 0 2 (by simp)) sizeTab rfl rfl ?_; (try simp only [Act.put, List.setIfInBounds_toArray, List.set_cons_zero, List.set_cons_succ]); refine hK.out _ _ ?_ (fun hHeld => ?_); (focus exact ⟨fc0, fc1, fd0, fd1, fd2, fd3⟩); clear hK K; (try simp only [Act.put, List.setIfInBounds_toArray, List.set_cons_zero, List.set_cons_succ])
            refine wpAnyH_done (by kernel_rfl) ?_ _
            clear gx fc0 fc1 fd0 fd1 fd2 fd3 c0_15k c1_15k d0_15k d1_15k d2_15k d3_15k
            have K0 := Lib.hid k0
            have K1 := Lib.hid k1
            clear k0 k1
            obtain ⟨W5, hW5⟩ : ∃ W5, w15.setCells w11.heap.size 0 [.slice A1 n c1, .slice A9 (m + 1) c9] = W5 := ⟨_, rfl⟩
            rw [hW5] at K0 K1 NF RBF RIF
            rw [hW5]
            clear hW5
            obtain ⟨xb, hxb⟩ : ∃ xb, w11.heap.size = xb := ⟨_, rfl⟩
            rw [hxb] at K0 K1 zx
            rw [hxb]
            clear hxb
          rotate_left 1
        rotate_left 2
        focus
          have c0_16 := N10.out.c0
          have c1_16 := N10.out.c1
          have d0_16 := N10.out.d0
          have d1_16 := N10.out.d1
          have d2_16 := N10.out.d2
          have d3_16 := N10.out.d3
          have c0_16a := ((Ext.refl ((w0.alloc (.cells #[.int .i64 b.A, .int .i64 b.X, .int .i64 b.B, .int .i64 b.Y] 42)))).alloc (.cells #[.slice none 0 0, .slice none 0 0] 27)).cell1 c0_16
          have c1_16a := ((Ext.refl ((w0.alloc (.cells #[.int .i64 b.A, .int .i64 b.X, .int .i64 b.B, .int .i64 b.Y] 42)))).alloc (.cells #[.slice none 0 0, .slice none 0 0] 27)).cell1 c1_16
          have d0_16a := ((Ext.refl ((w0.alloc (.cells #[.int .i64 b.A, .int .i64 b.X, .int .i64 b.B, .int .i64 b.Y] 42)))).alloc (.cells #[.slice none 0 0, .slice none 0 0] 27)).cell1 d0_16
          have d1_16a := ((Ext.refl ((w0.alloc (.cells #[.int .i64 b.A, .int .i64 b.X, .int .i64 b.B, .int .i64 b.Y] 42)))).alloc (.cells #[.slice none 0 0, .slice none 0 0] 27)).cell1 d1_16
          have d2_16a := ((Ext.refl ((w0.alloc (.cells #[.int .i64 b.A, .int .i64 b.X, .int .i64 b.B, .int .i64 b.Y] 42)))).alloc (.cells #[.slice none 0 0, .slice none 0 0] 27)).cell1 d2_16
          have d3_16a := ((Ext.refl ((w0.alloc (.cells #[.int .i64 b.A, .int .i64 b.X, .int .i64 b.B, .int .i64 b.Y] 42)))).alloc (.cells #[.slice none 0 0, .slice none 0 0] 27)).cell1 d3_16
          go_simp; (try simp only [Act.put, List.setIfInBounds_toArray, List.set_cons_zero, List.set_cons_succ]); (try go_wp2_with fail); refine hK.out _ _ ?_ (fun hHeld => ?_); (focus exact ⟨c0_16a, c1_16a, d0_16a, d1_16a, d2_16a, d3_16a⟩); clear hK K; (try simp only [Act.put, List.setIfInBounds_toArray, List.set_cons_zero, List.set_cons_succ])
          clear c0_16a c1_16a d0_16a d1_16a d2_16a d3_16a
          have bx16 := own_low' (own_block ((w0.alloc (.cells #[.int .i64 b.A, .int .i64 b.X, .int .i64 b.B, .int .i64 b.Y] 42))) 27 [.slice none 0 0, .slice none 0 0]) (Nat.zero_le _)
          (try simp only [World.size_alloc, World.size_drew] at bx16)
          have lt16 := N10.out.lt
          (try simp only [World.size_alloc, World.size_drew] at lt16)
          have ri16 := Lib.hid (((Ext.refl ((w0.alloc (.cells #[.int .i64 b.A, .int .i64 b.X, .int .i64 b.B, .int .i64 b.Y] 42)))).alloc (.cells #[.slice none 0 0, .slice none 0 0] 27)).own ri10.out)
          have rv16 := Lib.hid (((Ext.refl ((w0.alloc (.cells #[.int .i64 b.A, .int .i64 b.X, .int .i64 b.B, .int .i64 b.Y] 42)))).alloc (.cells #[.slice none 0 0, .slice none 0 0] 27)).own rvn10.out)
          have N16 := Lib.hid (N10.out.step ((Ext.refl ((w0.alloc (.cells #[.int .i64 b.A, .int .i64 b.X, .int .i64 b.B, .int .i64 b.Y] 42)))).alloc (.cells #[.slice none 0 0, .slice none 0 0] 27)))
          have BXn16 := Lib.hid bx16
          clear bx16 c0_16 c1_16 d0_16 d1_16 d2_16 d3_16
          have c0_17 := N16.out.c0
          have c1_17 := N16.out.c1
          have d0_17 := N16.out.d0
          have d1_17 := N16.out.d1
          have d2_17 := N16.out.d2
          have d3_17 := N16.out.d3
          refine wpAnyH_ready (rs := [5]) (by kernel_rfl) (by simp) ?_; refine AllReadyH.cons rfl (fun K hK => ?_) AllReadyH.nil; go_simp; (try simp only [Act.put, List.setIfInBounds_toArray, List.set_cons_zero, List.set_cons_succ]); (try go_wp2_with (go_at_call 24; refine (CloneB_any B m d bs _ hm (h.bl.rd.ext N16.out.ext)).mono ?_; rintro e w17 ⟨A2, c2, rfl, oc17, he1⟩)); refine hK.out _ _ ?_ (fun hHeld => ?_); (focus exact ⟨he1.cell1 c0_17, he1.cell1 c1_17, he1.cell1 d0_17, he1.cell1 d1_17, he1.cell1 d2_17, he1.cell1 d3_17⟩); clear hK K; (try simp only [Act.put, List.setIfInBounds_toArray, List.set_cons_zero, List.set_cons_succ])
          have ne17 : ∀ k, Value.ownBlock (.slice A2 m c2) = some k → k ≠ w0.heap.size := fun k hk => by have hh := (oc17.lt k hk).1; have h2 := (rv16.out.lt _ rfl).2; (try simp only [World.size_alloc, World.size_drew] at hh); (try simp only [World.size_alloc, World.size_drew] at h2); omega
          have NE := Lib.hid ne17
          clear ne17
          have rbn17 := Lib.hid (own_low' oc17 (show w.heap.size + 3 ≤ _ from N16.out.lt))
          have ri17 := Lib.hid (he1.own ri16.out)
          have rv17 := Lib.hid (he1.own rv16.out)
          have BX17 := Lib.hid (he1.own BXn16.out)
          have N17 := Lib.hid (N16.out.step he1)
          clear oc17 he1 c0_17 c1_17 d0_17 d1_17 d2_17 d3_17
          have c0_18 := N17.out.c0
          have c1_18 := N17.out.c1
          have d0_18 := N17.out.d0
          have d1_18 := N17.out.d1
          have d2_18 := N17.out.d2
          have d3_18 := N17.out.d3
          refine wpAnyH_ready (rs := [9]) (by kernel_rfl) (by simp) ?_; refine AllReadyH.cons rfl (fun K hK => ?_) AllReadyH.nil; go_simp; (try simp only [Act.put, List.setIfInBounds_toArray, List.set_cons_zero, List.set_cons_succ]); (try go_wp2_with (go_at_call 36; refine (InsertBan_any A2 m c2 kp w0.heap.size (w.heap.size + 3) _ bs b _ HPL.out hm N17.out.lt HB.out rbn17.out rv17.out NE.out).mono ?_; rintro e w18 ⟨A9, c9, rfl, op18, gp18⟩; have N18 := Lib.hid (N17.out.grow gp18 rbn17.out); have ri18 := Lib.hid (ri17.out.kept gp18 (own_types ri17.out rbn17.out intBan)); have BX18 := Lib.hid (BX17.out.kept gp18 (own_types BX17.out rbn17.out tabBan)); have rb18 := Lib.hid op18; clear op18 gp18; have c0_18k := N18.out.c0; have c1_18k := N18.out.c1; have d0_18k := N18.out.d0; have d1_18k := N18.out.d1; have d2_18k := N18.out.d2; have d3_18k := N18.out.d3)); refine hK.out _ _ ?_ (fun hHeld => ?_); (focus exact ⟨c0_18k, c1_18k, d0_18k, d1_18k, d2_18k, d3_18k⟩); clear hK K; (try simp only [Act.put, List.setIfInBounds_toArray, List.set_cons_zero, List.set_cons_succ])
          (refine wpAnyH_take (i := 10) (v := ?_) rfl (by kernel_rfl) (by kernel_rfl) (by kernel_rfl) (fun _ _ _ h => h) (Or.inl ⟨by rfl, ?_⟩) (by assumption) ?_); rotate_left 1; (focus (intro w hSw; (try dsimp only at hSw); go_simp; (try with_reducible rfl))); (try simp only [Act.put, List.setIfInBounds_toArray, List.set_cons_zero, List.set_cons_succ])
          clear c0_18 c1_18 d0_18 d1_18 d2_18 d3_18
          obtain ⟨k0, k1, gx⟩ := tab_stored BX18.out (.slice A1 n c1) (.slice A9 (m + 1) c9)
          have zx : w.heap.size + 2 < (w0.heap.size + 1) := lt16
          have NF := Lib.hid (N18.out.row gx zx)
          have RBF := Lib.hid (rb18.out.kept gx (own_types rb18.out BX18.out banTab))
          have RIF := Lib.hid (ri18.out.kept gx (own_types ri18.out BX18.out intTab))
          have fc0 := NF.out.c0
          have fc1 := NF.out.c1
          have fd0 := NF.out.d0
          have fd1 := NF.out.d1
          have fd2 := NF.out.d2
          have fd3 := NF.out.d3
          refine wpAnyH_ready (rs := [12]) (by kernel_rfl) (by simp) ?_; refine AllReadyH.cons rfl (fun K hK => ?_) AllReadyH.nil; refine step_store rfl 27 (.tmp 8) (.tmp 29) rfl (w0.heap.size + 1) 0 [.slice A1 n c1, .slice A9 (m + 1) c9] rfl rfl (own_there BX18.out 0 2 (by simp)) sizeTab rfl rfl ?_; (try simp only [Act.put, List.setIfInBounds_toArray, List.set_cons_zero, List.set_cons_succ]); refine hK.out _ _ ?_ (fun hHeld => ?_); (focus exact ⟨fc0, fc1, fd0, fd1, fd2, fd3⟩); clear hK K; (try simp only [Act.put, List.setIfInBounds_toArray, List.set_cons_zero, List.set_cons_succ])
          refine wpAnyH_done (by kernel_rfl) ?_ _
          clear gx fc0 fc1 fd0 fd1 fd2 fd3 c0_18k c1_18k d0_18k d1_18k d2_18k d3_18k
          have K0 := Lib.hid k0
          have K1 := Lib.hid k1
          clear k0 k1
          obtain ⟨W5, hW5⟩ : ∃ W5, w18.setCells (w0.heap.size + 1) 0 [.slice A1 n c1, .slice A9 (m + 1) c9] = W5 := ⟨_, rfl⟩
          rw [hW5] at K0 K1 NF RBF RIF
          rw [hW5]
          clear hW5
          obtain ⟨xb, hxb⟩ : ∃ xb, (w0.heap.size + 1) = xb := ⟨_, rfl⟩
          rw [hxb] at K0 K1 zx
          rw [hxb]
          clear hxb
        rotate_left 1
      rotate_left 3
      focus
        have c0_19 := N0.out.c0
        have c1_19 := N0.out.c1
        have d0_19 := N0.out.d0
        have d1_19 := N0.out.d1
        have d2_19 := N0.out.d2
        have d3_19 := N0.out.d3
        have c0_19a := ((Ext.refl (w0)).alloc (.cells #[.slice none 0 0, .slice none 0 0] 27)).cell1 c0_19
        have c1_19a := ((Ext.refl (w0)).alloc (.cells #[.slice none 0 0, .slice none 0 0] 27)).cell1 c1_19
        have d0_19a := ((Ext.refl (w0)).alloc (.cells #[.slice none 0 0, .slice none 0 0] 27)).cell1 d0_19
        have d1_19a := ((Ext.refl (w0)).alloc (.cells #[.slice none 0 0, .slice none 0 0] 27)).cell1 d1_19
        have d2_19a := ((Ext.refl (w0)).alloc (.cells #[.slice none 0 0, .slice none 0 0] 27)).cell1 d2_19
        have d3_19a := ((Ext.refl (w0)).alloc (.cells #[.slice none 0 0, .slice none 0 0] 27)).cell1 d3_19
        go_simp; (try simp only [Act.put, List.setIfInBounds_toArray, List.set_cons_zero, List.set_cons_succ]); (try go_wp2_with fail); refine hK.out _ _ ?_ (fun hHeld => ?_); (focus exact ⟨c0_19a, c1_19a, d0_19a, d1_19a, d2_19a, d3_19a⟩); clear hK K; (try simp only [Act.put, List.setIfInBounds_toArray, List.set_cons_zero, List.set_cons_succ])
        clear c0_19a c1_19a d0_19a d1_19a d2_19a d3_19a
        have bx19 := own_low' (own_block (w0) 27 [.slice none 0 0, .slice none 0 0]) (Nat.zero_le _)
        (try simp only [World.size_alloc, World.size_drew] at bx19)
        have lt19 := N0.out.lt
        (try simp only [World.size_alloc, World.size_drew] at lt19)
        have ri19 := Lib.hid (((Ext.refl (w0)).alloc (.cells #[.slice none 0 0, .slice none 0 0] 27)).own rin0.out)
        have N19 := Lib.hid (N0.out.step ((Ext.refl (w0)).alloc (.cells #[.slice none 0 0, .slice none 0 0] 27)))
        have BXn19 := Lib.hid bx19
        clear bx19 c0_19 c1_19 d0_19 d1_19 d2_19 d3_19
        refine wpAnyH_ready (rs := [5, 8]) (by kernel_rfl) (by simp) ?_; refine AllReadyH.cons rfl (fun K hK => ?_) (AllReadyH.cons rfl (fun K hK => ?_) (AllReadyH.nil))
        focus
          have c0_20 := N19.out.c0
          have c1_20 := N19.out.c1
          have d0_20 := N19.out.d0
          have d1_20 := N19.out.d1
          have d2_20 := N19.out.d2
          have d3_20 := N19.out.d3
          go_simp; (try simp only [Act.put, List.setIfInBounds_toArray, List.set_cons_zero, List.set_cons_succ]); (try go_wp2_with (go_at_call 24; refine (CloneB_any B m d bs _ hm (h.bl.rd.ext N19.out.ext)).mono ?_; rintro e w20 ⟨A2, c2, rfl, oc20, he1⟩)); refine hK.out _ _ ?_ (fun hHeld => ?_); (focus exact ⟨he1.cell1 c0_20, he1.cell1 c1_20, he1.cell1 d0_20, he1.cell1 d1_20, he1.cell1 d2_20, he1.cell1 d3_20⟩); clear hK K; (try simp only [Act.put, List.setIfInBounds_toArray, List.set_cons_zero, List.set_cons_succ])
          have rbn20 := Lib.hid (own_low' oc20 (show w.heap.size + 3 ≤ _ from N19.out.lt))
          have ri20 := Lib.hid (he1.own ri19.out)
          have BX20 := Lib.hid (he1.own BXn19.out)
          have N20 := Lib.hid (N19.out.step he1)
          clear oc20 he1 c0_20 c1_20 d0_20 d1_20 d2_20 d3_20
          have ne21 : ∀ k, Value.ownBlock (.slice A2 m c2) = some k → k ≠ w20.heap.size := fun k hk => by have hh := (rbn20.out.lt k hk).2; (try simp only [World.size_alloc, World.size_drew] at hh); omega
          have NE := Lib.hid ne21
          clear ne21
          have c0_21 := N20.out.c0
          have c1_21 := N20.out.c1
          have d0_21 := N20.out.d0
          have d1_21 := N20.out.d1
          have d2_21 := N20.out.d2
          have d3_21 := N20.out.d3
          have c0_21a := ((Ext.refl (w20)).alloc (.cells #[.int .i64 b.A, .int .i64 b.X, .int .i64 b.B, .int .i64 b.Y] 42)).cell1 c0_21
          have c1_21a := ((Ext.refl (w20)).alloc (.cells #[.int .i64 b.A, .int .i64 b.X, .int .i64 b.B, .int .i64 b.Y] 42)).cell1 c1_21
          have d0_21a := ((Ext.refl (w20)).alloc (.cells #[.int .i64 b.A, .int .i64 b.X, .int .i64 b.B, .int .i64 b.Y] 42)).cell1 d0_21
          have d1_21a := ((Ext.refl (w20)).alloc (.cells #[.int .i64 b.A, .int .i64 b.X, .int .i64 b.B, .int .i64 b.Y] 42)).cell1 d1_21
          have d2_21a := ((Ext.refl (w20)).alloc (.cells #[.int .i64 b.A, .int .i64 b.X, .int .i64 b.B, .int .i64 b.Y] 42)).cell1 d2_21
          have d3_21a := ((Ext.refl (w20)).alloc (.cells #[.int .i64 b.A, .int .i64 b.X, .int .i64 b.B, .int .i64 b.Y] 42)).cell1 d3_21
          refine wpAnyH_ready (rs := [8]) (by kernel_rfl) (by simp) ?_; refine AllReadyH.cons rfl (fun K hK => ?_) AllReadyH.nil; go_simp; (try simp only [Act.put, List.setIfInBounds_toArray, List.set_cons_zero, List.set_cons_succ]); (try go_wp2_with fail); refine hK.out _ _ ?_ (fun hHeld => ?_); (focus exact ⟨c0_21a, c1_21a, d0_21a, d1_21a, d2_21a, d3_21a⟩); clear hK K; (try simp only [Act.put, List.setIfInBounds_toArray, List.set_cons_zero, List.set_cons_succ])
          clear c0_21a c1_21a d0_21a d1_21a d2_21a d3_21a
          have bx21 := own_low' (own_block (w20) 42 [.int .i64 b.A, .int .i64 b.X, .int .i64 b.B, .int .i64 b.Y]) (Nat.zero_le _)
          (try simp only [World.size_alloc, World.size_drew] at bx21)
          have lt21 := N20.out.lt
          (try simp only [World.size_alloc, World.size_drew] at lt21)
          have ri21 := Lib.hid (((Ext.refl (w20)).alloc (.cells #[.int .i64 b.A, .int .i64 b.X, .int .i64 b.B, .int .i64 b.Y] 42)).own ri20.out)
          have BX21 := Lib.hid (((Ext.refl (w20)).alloc (.cells #[.int .i64 b.A, .int .i64 b.X, .int .i64 b.B, .int .i64 b.Y] 42)).own BX20.out)
          have rb21 := Lib.hid (((Ext.refl (w20)).alloc (.cells #[.int .i64 b.A, .int .i64 b.X, .int .i64 b.B, .int .i64 b.Y] 42)).own rbn20.out)
          have N21 := Lib.hid (N20.out.step ((Ext.refl (w20)).alloc (.cells #[.int .i64 b.A, .int .i64 b.X, .int .i64 b.B, .int .i64 b.Y] 42)))
          have rvn21 := Lib.hid bx21
          clear bx21 c0_21 c1_21 d0_21 d1_21 d2_21 d3_21
          have c0_22 := N21.out.c0
          have c1_22 := N21.out.c1
          have d0_22 := N21.out.d0
          have d1_22 := N21.out.d1
          have d2_22 := N21.out.d2
          have d3_22 := N21.out.d3
          refine wpAnyH_ready (rs := [9]) (by kernel_rfl) (by simp) ?_; refine AllReadyH.cons rfl (fun K hK => ?_) AllReadyH.nil; go_simp; (try simp only [Act.put, List.setIfInBounds_toArray, List.set_cons_zero, List.set_cons_succ]); (try go_wp2_with (go_at_call 36; refine (InsertBan_any A2 m c2 kp w20.heap.size (w.heap.size + 3) _ bs b _ HPL.out hm N21.out.lt HB.out rb21.out rvn21.out NE.out).mono ?_; rintro e w22 ⟨A9, c9, rfl, op22, gp22⟩; have N22 := Lib.hid (N21.out.grow gp22 rb21.out); have ri22 := Lib.hid (ri21.out.kept gp22 (own_types ri21.out rb21.out intBan)); have BX22 := Lib.hid (BX21.out.kept gp22 (own_types BX21.out rb21.out tabBan)); have rb22 := Lib.hid op22; clear op22 gp22; have c0_22k := N22.out.c0; have c1_22k := N22.out.c1; have d0_22k := N22.out.d0; have d1_22k := N22.out.d1; have d2_22k := N22.out.d2; have d3_22k := N22.out.d3)); refine hK.out _ _ ?_ (fun hHeld => ?_); (focus exact ⟨c0_22k, c1_22k, d0_22k, d1_22k, d2_22k, d3_22k⟩); clear hK K; (try simp only [Act.put, List.setIfInBounds_toArray, List.set_cons_zero, List.set_cons_succ])
          (refine wpAnyH_take (i := 10) (v := ?_) rfl (by kernel_rfl) (by kernel_rfl) (by kernel_rfl) (fun _ _ _ h => h) (Or.inl ⟨by rfl, ?_⟩) (by assumption) ?_); rotate_left 1; (focus (intro w hSw; (try dsimp only at hSw); go_simp; (try with_reducible rfl))); (try simp only [Act.put, List.setIfInBounds_toArray, List.set_cons_zero, List.set_cons_succ])
          clear c0_22 c1_22 d0_22 d1_22 d2_22 d3_22
          obtain ⟨k0, k1, gx⟩ := tab_stored BX22.out (.slice A1 n c1) (.slice A9 (m + 1) c9)
          have zx : w.heap.size + 2 < w0.heap.size := lt19
          have NF := Lib.hid (N22.out.row gx zx)
          have RBF := Lib.hid (rb22.out.kept gx (own_types rb22.out BX22.out banTab))
          have RIF := Lib.hid (ri22.out.kept gx (own_types ri22.out BX22.out intTab))
          have fc0 := NF.out.c0
          have fc1 := NF.out.c1
          have fd0 := NF.out.d0
          have fd1 := NF.out.d1
          have fd2 := NF.out.d2
          have fd3 := NF.out.d3
          refine wpAnyH_ready (rs := [12]) (by kernel_rfl) (by simp) ?_; refine AllReadyH.cons rfl (fun K hK => ?_) AllReadyH.nil; refine step_store rfl 27 (.tmp 8) (.tmp 29) rfl w0.heap.size 0 [.slice A1 n c1, .slice A9 (m + 1) c9] rfl rfl (own_there BX22.out 0 2 (by simp)) sizeTab rfl rfl ?_; (try simp only [Act.put, List.setIfInBounds_toArray, List.set_cons_zero, List.set_cons_succ]); refine hK.out _ _ ?_ (fun hHeld => ?_); (focus exact ⟨fc0, fc1, fd0, fd1, fd2, fd3⟩); clear hK K; (try simp only [Act.put, List.setIfInBounds_toArray, List.set_cons_zero, List.set_cons_succ])
          refine wpAnyH_done (by kernel_rfl) ?_ _
          clear gx fc0 fc1 fd0 fd1 fd2 fd3 c0_22k c1_22k d0_22k d1_22k d2_22k d3_22k
          have K0 := Lib.hid k0
          have K1 := Lib.hid k1
          clear k0 k1
          obtain ⟨W5, hW5⟩ : ∃ W5, w22.setCells w0.heap.size 0 [.slice A1 n c1, .slice A9 (m + 1) c9] = W5 := ⟨_, rfl⟩
          rw [hW5] at K0 K1 NF RBF RIF
          rw [hW5]
          clear hW5
          obtain ⟨xb, hxb⟩ : ∃ xb, w0.heap.size = xb := ⟨_, rfl⟩
          rw [hxb] at K0 K1 zx
          rw [hxb]
          clear hxb
        rotate_left 1
        focus
          have c0_23 := N19.out.c0
          have c1_23 := N19.out.c1
          have d0_23 := N19.out.d0
          have d1_23 := N19.out.d1
          have d2_23 := N19.out.d2
          have d3_23 := N19.out.d3
          have c0_23a := ((Ext.refl ((w0.alloc (.cells #[.slice none 0 0, .slice none 0 0] 27)))).alloc (.cells #[.int .i64 b.A, .int .i64 b.X, .int .i64 b.B, .int .i64 b.Y] 42)).cell1 c0_23
          have c1_23a := ((Ext.refl ((w0.alloc (.cells #[.slice none 0 0, .slice none 0 0] 27)))).alloc (.cells #[.int .i64 b.A, .int .i64 b.X, .int .i64 b.B, .int .i64 b.Y] 42)).cell1 c1_23
          have d0_23a := ((Ext.refl ((w0.alloc (.cells #[.slice none 0 0, .slice none 0 0] 27)))).alloc (.cells #[.int .i64 b.A, .int .i64 b.X, .int .i64 b.B, .int .i64 b.Y] 42)).cell1 d0_23
          have d1_23a := ((Ext.refl ((w0.alloc (.cells #[.slice none 0 0, .slice none 0 0] 27)))).alloc (.cells #[.int .i64 b.A, .int .i64 b.X, .int .i64 b.B, .int .i64 b.Y] 42)).cell1 d1_23
          have d2_23a := ((Ext.refl ((w0.alloc (.cells #[.slice none 0 0, .slice none 0 0] 27)))).alloc (.cells #[.int .i64 b.A, .int .i64 b.X, .int .i64 b.B, .int .i64 b.Y] 42)).cell1 d2_23
          have d3_23a := ((Ext.refl ((w0.alloc (.cells #[.slice none 0 0, .slice none 0 0] 27)))).alloc (.cells #[.int .i64 b.A, .int .i64 b.X, .int .i64 b.B, .int .i64 b.Y] 42)).cell1 d3_23
          go_simp; (try simp only [Act.put, List.setIfInBounds_toArray, List.set_cons_zero, List.set_cons_succ]); (try go_wp2_with fail); refine hK.out _ _ ?_ (fun hHeld => ?_); (focus exact ⟨c0_23a, c1_23a, d0_23a, d1_23a, d2_23a, d3_23a⟩); clear hK K; (try simp only [Act.put, List.setIfInBounds_toArray, List.set_cons_zero, List.set_cons_succ])
          clear c0_23a c1_23a d0_23a d1_23a d2_23a d3_23a
          have bx23 := own_low' (own_block ((w0.alloc (.cells #[.slice none 0 0, .slice none 0 0] 27))) 42 [.int .i64 b.A, .int .i64 b.X, .int .i64 b.B, .int .i64 b.Y]) (Nat.zero_le _)
          (try simp only [World.size_alloc, World.size_drew] at bx23)
          have lt23 := N19.out.lt
          (try simp only [World.size_alloc, World.size_drew] at lt23)
          have ri23 := Lib.hid (((Ext.refl ((w0.alloc (.cells #[.slice none 0 0, .slice none 0 0] 27)))).alloc (.cells #[.int .i64 b.A, .int .i64 b.X, .int .i64 b.B, .int .i64 b.Y] 42)).own ri19.out)
          have BX23 := Lib.hid (((Ext.refl ((w0.alloc (.cells #[.slice none 0 0, .slice none 0 0] 27)))).alloc (.cells #[.int .i64 b.A, .int .i64 b.X, .int .i64 b.B, .int .i64 b.Y] 42)).own BXn19.out)
          have N23 := Lib.hid (N19.out.step ((Ext.refl ((w0.alloc (.cells #[.slice none 0 0, .slice none 0 0] 27)))).alloc (.cells #[.int .i64 b.A, .int .i64 b.X, .int .i64 b.B, .int .i64 b.Y] 42)))
          have rvn23 := Lib.hid bx23
          clear bx23 c0_23 c1_23 d0_23 d1_23 d2_23 d3_23
          have c0_24 := N23.out.c0
          have c1_24 := N23.out.c1
          have d0_24 := N23.out.d0
          have d1_24 := N23.out.d1
          have d2_24 := N23.out.d2
          have d3_24 := N23.out.d3
          refine wpAnyH_ready (rs := [5]) (by kernel_rfl) (by simp) ?_; refine AllReadyH.cons rfl (fun K hK => ?_) AllReadyH.nil; go_simp; (try simp only [Act.put, List.setIfInBounds_toArray, List.set_cons_zero, List.set_cons_succ]); (try go_wp2_with (go_at_call 24; refine (CloneB_any B m d bs _ hm (h.bl.rd.ext N23.out.ext)).mono ?_; rintro e w24 ⟨A2, c2, rfl, oc24, he1⟩)); refine hK.out _ _ ?_ (fun hHeld => ?_); (focus exact ⟨he1.cell1 c0_24, he1.cell1 c1_24, he1.cell1 d0_24, he1.cell1 d1_24, he1.cell1 d2_24, he1.cell1 d3_24⟩); clear hK K; (try simp only [Act.put, List.setIfInBounds_toArray, List.set_cons_zero, List.set_cons_succ])
          have ne24 : ∀ k, Value.ownBlock (.slice A2 m c2) = some k → k ≠ (w0.heap.size + 1) := fun k hk => by have hh := (oc24.lt k hk).1; have h2 := (rvn23.out.lt _ rfl).2; (try simp only [World.size_alloc, World.size_drew] at hh); (try simp only [World.size_alloc, World.size_drew] at h2); omega
          have NE := Lib.hid ne24
          clear ne24
          have rbn24 := Lib.hid (own_low' oc24 (show w.heap.size + 3 ≤ _ from N23.out.lt))
          have ri24 := Lib.hid (he1.own ri23.out)
          have BX24 := Lib.hid (he1.own BX23.out)
          have rv24 := Lib.hid (he1.own rvn23.out)
          have N24 := Lib.hid (N23.out.step he1)
          clear oc24 he1 c0_24 c1_24 d0_24 d1_24 d2_24 d3_24
          have c0_25 := N24.out.c0
          have c1_25 := N24.out.c1
          have d0_25 := N24.out.d0
          have d1_25 := N24.out.d1
          have d2_25 := N24.out.d2
          have d3_25 := N24.out.d3
          refine wpAnyH_ready (rs := [9]) (by kernel_rfl) (by simp) ?_; refine AllReadyH.cons rfl (fun K hK => ?_) AllReadyH.nil; go_simp; (try simp only [Act.put, List.setIfInBounds_toArray, List.set_cons_zero, List.set_cons_succ]); (try go_wp2_with (go_at_call 36; refine (InsertBan_any A2 m c2 kp (w0.heap.size + 1) (w.heap.size + 3) _ bs b _ HPL.out hm N24.out.lt HB.out rbn24.out rv24.out NE.out).mono ?_; rintro e w25 ⟨A9, c9, rfl, op25, gp25⟩; have N25 := Lib.hid (N24.out.grow gp25 rbn24.out); have ri25 := Lib.hid (ri24.out.kept gp25 (own_types ri24.out rbn24.out intBan)); have BX25 := Lib.hid (BX24.out.kept gp25 (own_types BX24.out rbn24.out tabBan)); have rb25 := Lib.hid op25; clear op25 gp25; have c0_25k := N25.out.c0; have c1_25k := N25.out.c1; have d0_25k := N25.out.d0; have d1_25k := N25.out.d1; have d2_25k := N25.out.d2; have d3_25k := N25.out.d3)); refine hK.out _ _ ?_ (fun hHeld => ?_); (focus exact ⟨c0_25k, c1_25k, d0_25k, d1_25k, d2_25k, d3_25k⟩); clear hK K; (try simp only [Act.put, List.setIfInBounds_toArray, List.set_cons_zero, List.set_cons_succ])
          (refine wpAnyH_take (i := 10) (v := ?_) rfl (by kernel_rfl) (by kernel_rfl) (by kernel_rfl) (fun _ _ _ h => h) (Or.inl ⟨by rfl, ?_⟩) (by assumption) ?_); rotate_left 1; (focus (intro w hSw; (try dsimp only at hSw); go_simp; (try with_reducible rfl))); (try simp only [Act.put, List.setIfInBounds_toArray, List.set_cons_zero, List.set_cons_succ])
          clear c0_25 c1_25 d0_25 d1_25 d2_25 d3_25
          obtain ⟨k0, k1, gx⟩ := tab_stored BX25.out (.slice A1 n c1) (.slice A9 (m + 1) c9)
          have zx : w.heap.size + 2 < w0.heap.size := lt19
          have NF := Lib.hid (N25.out.row gx zx)
          have RBF := Lib.hid (rb25.out.kept gx (own_types rb25.out BX25.out banTab))
          have RIF := Lib.hid (ri25.out.kept gx (own_types ri25.out BX25.out intTab))
          have fc0 := NF.out.c0
          have fc1 := NF.out.c1
          have fd0 := NF.out.d0
          have fd1 := NF.out.d1
          have fd2 := NF.out.d2
          have fd3 := NF.out.d3
          refine wpAnyH_ready (rs := [12]) (by kernel_rfl) (by simp) ?_; refine AllReadyH.cons rfl (fun K hK => ?_) AllReadyH.nil; refine step_store rfl 27 (.tmp 8) (.tmp 29) rfl w0.heap.size 0 [.slice A1 n c1, .slice A9 (m + 1) c9] rfl rfl (own_there BX25.out 0 2 (by simp)) sizeTab rfl rfl ?_; (try simp only [Act.put, List.setIfInBounds_toArray, List.set_cons_zero, List.set_cons_succ]); refine hK.out _ _ ?_ (fun hHeld => ?_); (focus exact ⟨fc0, fc1, fd0, fd1, fd2, fd3⟩); clear hK K; (try simp only [Act.put, List.setIfInBounds_toArray, List.set_cons_zero, List.set_cons_succ])
          refine wpAnyH_done (by kernel_rfl) ?_ _
          clear gx fc0 fc1 fd0 fd1 fd2 fd3 c0_25k c1_25k d0_25k d1_25k d2_25k d3_25k
          have K0 := Lib.hid k0
          have K1 := Lib.hid k1
          clear k0 k1
          obtain ⟨W5, hW5⟩ : ∃ W5, w25.setCells w0.heap.size 0 [.slice A1 n c1, .slice A9 (m + 1) c9] = W5 := ⟨_, rfl⟩
          rw [hW5] at K0 K1 NF RBF RIF
          rw [hW5]
          clear hW5
          obtain ⟨xb, hxb⟩ : ∃ xb, w0.heap.size = xb := ⟨_, rfl⟩
          rw [hxb] at K0 K1 zx
          rw [hxb]
          clear hxb
        rotate_left 1
      rotate_left 2
    rotate_left 8
    focus
      have c0_26 := N2.out.c0
      have c1_26 := N2.out.c1
      have d0_26 := N2.out.d0
      have d1_26 := N2.out.d1
      have d2_26 := N2.out.d2
      have d3_26 := N2.out.d3
      have c0_26a := ((Ext.refl (wq.drew)).alloc (.cells #[.int .i64 b.A, .int .i64 b.X, .int .i64 b.B, .int .i64 b.Y] 42)).cell1 c0_26
      have c1_26a := ((Ext.refl (wq.drew)).alloc (.cells #[.int .i64 b.A, .int .i64 b.X, .int .i64 b.B, .int .i64 b.Y] 42)).cell1 c1_26
      have d0_26a := ((Ext.refl (wq.drew)).alloc (.cells #[.int .i64 b.A, .int .i64 b.X, .int .i64 b.B, .int .i64 b.Y] 42)).cell1 d0_26
      have d1_26a := ((Ext.refl (wq.drew)).alloc (.cells #[.int .i64 b.A, .int .i64 b.X, .int .i64 b.B, .int .i64 b.Y] 42)).cell1 d1_26
      have d2_26a := ((Ext.refl (wq.drew)).alloc (.cells #[.int .i64 b.A, .int .i64 b.X, .int .i64 b.B, .int .i64 b.Y] 42)).cell1 d2_26
      have d3_26a := ((Ext.refl (wq.drew)).alloc (.cells #[.int .i64 b.A, .int .i64 b.X, .int .i64 b.B, .int .i64 b.Y] 42)).cell1 d3_26
      go_simp; (try simp only [Act.put, List.setIfInBounds_toArray, List.set_cons_zero, List.set_cons_succ]); (try go_wp2_with fail); refine hK.out _ _ ?_ (fun hHeld => ?_); (focus exact ⟨c0_26a, c1_26a, d0_26a, d1_26a, d2_26a, d3_26a⟩); clear hK K; (try simp only [Act.put, List.setIfInBounds_toArray, List.set_cons_zero, List.set_cons_succ])
      clear c0_26a c1_26a d0_26a d1_26a d2_26a d3_26a
      have bx26 := own_low' (own_block (wq.drew) 42 [.int .i64 b.A, .int .i64 b.X, .int .i64 b.B, .int .i64 b.Y]) (Nat.zero_le _)
      (try simp only [World.size_alloc, World.size_drew] at bx26)
      have lt26 := N2.out.lt
      (try simp only [World.size_alloc, World.size_drew] at lt26)
      have N26 := Lib.hid (N2.out.step ((Ext.refl (wq.drew)).alloc (.cells #[.int .i64 b.A, .int .i64 b.X, .int .i64 b.B, .int .i64 b.Y] 42)))
      have rvn26 := Lib.hid bx26
      clear bx26 c0_26 c1_26 d0_26 d1_26 d2_26 d3_26
      refine wpAnyH_ready (rs := [2, 11]) (by kernel_rfl) (by simp) ?_; refine AllReadyH.cons rfl (fun K hK => ?_) (AllReadyH.cons rfl (fun K hK => ?_) (AllReadyH.nil))
      focus
        have c0_27 := N26.out.c0
        have c1_27 := N26.out.c1
        have d0_27 := N26.out.d0
        have d1_27 := N26.out.d1
        have d2_27 := N26.out.d2
        have d3_27 := N26.out.d3
        go_simp; (try simp only [Act.put, List.setIfInBounds_toArray, List.set_cons_zero, List.set_cons_succ]); (try go_wp2_with (go_at_call 35; refine (CloneI_any A n c ss _ hn (h.sr.ext N26.out.ext)).mono ?_; rintro e w27 ⟨A1, c1, rfl, oc27, he1⟩)); refine hK.out _ _ ?_ (fun hHeld => ?_); (focus exact ⟨he1.cell1 c0_27, he1.cell1 c1_27, he1.cell1 d0_27, he1.cell1 d1_27, he1.cell1 d2_27, he1.cell1 d3_27⟩); clear hK K; (try simp only [Act.put, List.setIfInBounds_toArray, List.set_cons_zero, List.set_cons_succ])
        have rv27 := Lib.hid (he1.own rvn26.out)
        have N27 := Lib.hid (N26.out.step he1)
        have lt27 := N27.out.lt
        have rin27 := Lib.hid (own_low' oc27 (show w.heap.size + 3 ≤ _ from N26.out.lt))
        clear oc27 he1 c0_27 c1_27 d0_27 d1_27 d2_27 d3_27
        refine wpAnyH_ready (rs := [5, 11]) (by kernel_rfl) (by simp) ?_; refine AllReadyH.cons rfl (fun K hK => ?_) (AllReadyH.cons rfl (fun K hK => ?_) (AllReadyH.nil))
        focus
          have c0_28 := N27.out.c0
          have c1_28 := N27.out.c1
          have d0_28 := N27.out.d0
          have d1_28 := N27.out.d1
          have d2_28 := N27.out.d2
          have d3_28 := N27.out.d3
          go_simp; (try simp only [Act.put, List.setIfInBounds_toArray, List.set_cons_zero, List.set_cons_succ]); (try go_wp2_with (go_at_call 24; refine (CloneB_any B m d bs _ hm (h.bl.rd.ext N27.out.ext)).mono ?_; rintro e w28 ⟨A2, c2, rfl, oc28, he1⟩)); refine hK.out _ _ ?_ (fun hHeld => ?_); (focus exact ⟨he1.cell1 c0_28, he1.cell1 c1_28, he1.cell1 d0_28, he1.cell1 d1_28, he1.cell1 d2_28, he1.cell1 d3_28⟩); clear hK K; (try simp only [Act.put, List.setIfInBounds_toArray, List.set_cons_zero, List.set_cons_succ])
          have ne28 : ∀ k, Value.ownBlock (.slice A2 m c2) = some k → k ≠ wq.heap.size := fun k hk => by have hh := (oc28.lt k hk).1; have h2 := (rv27.out.lt _ rfl).2; (try simp only [World.size_alloc, World.size_drew] at hh); (try simp only [World.size_alloc, World.size_drew] at h2); omega
          have NE := Lib.hid ne28
          clear ne28
          have rbn28 := Lib.hid (own_low' oc28 (show w.heap.size + 3 ≤ _ from N27.out.lt))
          have rv28 := Lib.hid (he1.own rv27.out)
          have ri28 := Lib.hid (he1.own rin27.out)
          have N28 := Lib.hid (N27.out.step he1)
          clear oc28 he1 c0_28 c1_28 d0_28 d1_28 d2_28 d3_28
          refine wpAnyH_ready (rs := [9, 11]) (by kernel_rfl) (by simp) ?_; refine AllReadyH.cons rfl (fun K hK => ?_) (AllReadyH.cons rfl (fun K hK => ?_) (AllReadyH.nil))
          focus
            have c0_29 := N28.out.c0
            have c1_29 := N28.out.c1
            have d0_29 := N28.out.d0
            have d1_29 := N28.out.d1
            have d2_29 := N28.out.d2
            have d3_29 := N28.out.d3
            go_simp; (try simp only [Act.put, List.setIfInBounds_toArray, List.set_cons_zero, List.set_cons_succ]); (try go_wp2_with (go_at_call 36; refine (InsertBan_any A2 m c2 kp wq.heap.size (w.heap.size + 3) _ bs b _ HPL.out hm N28.out.lt HB.out rbn28.out rv28.out NE.out).mono ?_; rintro e w29 ⟨A9, c9, rfl, op29, gp29⟩; have N29 := Lib.hid (N28.out.grow gp29 rbn28.out); have ri29 := Lib.hid (ri28.out.kept gp29 (own_types ri28.out rbn28.out intBan)); have rb29 := Lib.hid op29; clear op29 gp29; have c0_29k := N29.out.c0; have c1_29k := N29.out.c1; have d0_29k := N29.out.d0; have d1_29k := N29.out.d1; have d2_29k := N29.out.d2; have d3_29k := N29.out.d3)); refine hK.out _ _ ?_ (fun hHeld => ?_); (focus exact ⟨c0_29k, c1_29k, d0_29k, d1_29k, d2_29k, d3_29k⟩); clear hK K; (try simp only [Act.put, List.setIfInBounds_toArray, List.set_cons_zero, List.set_cons_succ])
            (refine wpAnyH_take (i := 10) (v := ?_) rfl (by kernel_rfl) (by kernel_rfl) (by kernel_rfl) (fun _ _ _ h => h) (Or.inl ⟨by rfl, ?_⟩) (by assumption) ?_); rotate_left 1; (focus (intro w hSw; (try dsimp only at hSw); go_simp; (try with_reducible rfl))); (try simp only [Act.put, List.setIfInBounds_toArray, List.set_cons_zero, List.set_cons_succ])
            clear c0_29 c1_29 d0_29 d1_29 d2_29 d3_29
            have c0_30 := N29.out.c0
            have c1_30 := N29.out.c1
            have d0_30 := N29.out.d0
            have d1_30 := N29.out.d1
            have d2_30 := N29.out.d2
            have d3_30 := N29.out.d3
            have c0_30a := ((Ext.refl (w29)).alloc (.cells #[.slice none 0 0, .slice none 0 0] 27)).cell1 c0_30
            have c1_30a := ((Ext.refl (w29)).alloc (.cells #[.slice none 0 0, .slice none 0 0] 27)).cell1 c1_30
            have d0_30a := ((Ext.refl (w29)).alloc (.cells #[.slice none 0 0, .slice none 0 0] 27)).cell1 d0_30
            have d1_30a := ((Ext.refl (w29)).alloc (.cells #[.slice none 0 0, .slice none 0 0] 27)).cell1 d1_30
            have d2_30a := ((Ext.refl (w29)).alloc (.cells #[.slice none 0 0, .slice none 0 0] 27)).cell1 d2_30
            have d3_30a := ((Ext.refl (w29)).alloc (.cells #[.slice none 0 0, .slice none 0 0] 27)).cell1 d3_30
            refine wpAnyH_ready (rs := [11]) (by kernel_rfl) (by simp) ?_; refine AllReadyH.cons rfl (fun K hK => ?_) AllReadyH.nil; go_simp; (try simp only [Act.put, List.setIfInBounds_toArray, List.set_cons_zero, List.set_cons_succ]); (try go_wp2_with fail); refine hK.out _ _ ?_ (fun hHeld => ?_); (focus exact ⟨c0_30a, c1_30a, d0_30a, d1_30a, d2_30a, d3_30a⟩); clear hK K; (try simp only [Act.put, List.setIfInBounds_toArray, List.set_cons_zero, List.set_cons_succ])
            clear c0_30a c1_30a d0_30a d1_30a d2_30a d3_30a
            have bx30 := own_low' (own_block (w29) 27 [.slice none 0 0, .slice none 0 0]) (Nat.zero_le _)
            (try simp only [World.size_alloc, World.size_drew] at bx30)
            have lt30 := N29.out.lt
            (try simp only [World.size_alloc, World.size_drew] at lt30)
            have ri30 := Lib.hid (((Ext.refl (w29)).alloc (.cells #[.slice none 0 0, .slice none 0 0] 27)).own ri29.out)
            have rb30 := Lib.hid (((Ext.refl (w29)).alloc (.cells #[.slice none 0 0, .slice none 0 0] 27)).own rb29.out)
            have N30 := Lib.hid (N29.out.step ((Ext.refl (w29)).alloc (.cells #[.slice none 0 0, .slice none 0 0] 27)))
            have BXn30 := Lib.hid bx30
            clear bx30 c0_30 c1_30 d0_30 d1_30 d2_30 d3_30
            obtain ⟨k0, k1, gx⟩ := tab_stored BXn30.out (.slice A1 n c1) (.slice A9 (m + 1) c9)
            have zx : w.heap.size + 2 < w29.heap.size := lt30
            have NF := Lib.hid (N30.out.row gx zx)
            have RBF := Lib.hid (rb30.out.kept gx (own_types rb30.out BXn30.out banTab))
            have RIF := Lib.hid (ri30.out.kept gx (own_types ri30.out BXn30.out intTab))
            have fc0 := NF.out.c0
            have fc1 := NF.out.c1
            have fd0 := NF.out.d0
            have fd1 := NF.out.d1
            have fd2 := NF.out.d2
            have fd3 := NF.out.d3
            refine wpAnyH_ready (rs := [12]) (by kernel_rfl) (by simp) ?_; refine AllReadyH.cons rfl (fun K hK => ?_) AllReadyH.nil; refine step_store rfl 27 (.tmp 8) (.tmp 29) rfl w29.heap.size 0 [.slice A1 n c1, .slice A9 (m + 1) c9] rfl rfl (own_there BXn30.out 0 2 (by simp)) sizeTab rfl rfl ?_; (try simp only [Act.put, List.setIfInBounds_toArray, List.set_cons_zero, List.set_cons_succ]); refine hK.out _ _ ?_ (fun hHeld => ?_); (focus exact ⟨fc0, fc1, fd0, fd1, fd2, fd3⟩); clear hK K; (try simp only [Act.put, List.setIfInBounds_toArray, List.set_cons_zero, List.set_cons_succ])
            refine wpAnyH_done (by kernel_rfl) ?_ _
            clear gx fc0 fc1 fd0 fd1 fd2 fd3 c0_29k c1_29k d0_29k d1_29k d2_29k d3_29k
            have K0 := Lib.hid k0
            have K1 := Lib.hid k1
            clear k0 k1
            obtain ⟨W5, hW5⟩ : ∃ W5, (w29.alloc (.cells #[.slice none 0 0, .slice none 0 0] 27)).setCells w29.heap.size 0 [.slice A1 n c1, .slice A9 (m + 1) c9] = W5 := ⟨_, rfl⟩
            rw [hW5] at K0 K1 NF RBF RIF
            rw [hW5]
            clear hW5
            obtain ⟨xb, hxb⟩ : ∃ xb, w29.heap.size = xb := ⟨_, rfl⟩
            rw [hxb] at K0 K1 zx
            rw [hxb]
            clear hxb
          rotate_left 1
          focus
            have c0_31 := N28.out.c0
            have c1_31 := N28.out.c1
            have d0_31 := N28.out.d0
            have d1_31 := N28.out.d1
            have d2_31 := N28.out.d2
            have d3_31 := N28.out.d3
            have c0_31a := ((Ext.refl (w28)).alloc (.cells #[.slice none 0 0, .slice none 0 0] 27)).cell1 c0_31
            have c1_31a := ((Ext.refl (w28)).alloc (.cells #[.slice none 0 0, .slice none 0 0] 27)).cell1 c1_31
            have d0_31a := ((Ext.refl (w28)).alloc (.cells #[.slice none 0 0, .slice none 0 0] 27)).cell1 d0_31
            have d1_31a := ((Ext.refl (w28)).alloc (.cells #[.slice none 0 0, .slice none 0 0] 27)).cell1 d1_31
            have d2_31a := ((Ext.refl (w28)).alloc (.cells #[.slice none 0 0, .slice none 0 0] 27)).cell1 d2_31
            have d3_31a := ((Ext.refl (w28)).alloc (.cells #[.slice none 0 0, .slice none 0 0] 27)).cell1 d3_31
            go_simp; (try simp only [Act.put, List.setIfInBounds_toArray, List.set_cons_zero, List.set_cons_succ]); (try go_wp2_with fail); refine hK.out _ _ ?_ (fun hHeld => ?_); (focus exact ⟨c0_31a, c1_31a, d0_31a, d1_31a, d2_31a, d3_31a⟩); clear hK K; (try simp only [Act.put, List.setIfInBounds_toArray, List.set_cons_zero, List.set_cons_succ])
            clear c0_31a c1_31a d0_31a d1_31a d2_31a d3_31a
            have bx31 := own_low' (own_block (w28) 27 [.slice none 0 0, .slice none 0 0]) (Nat.zero_le _)
            (try simp only [World.size_alloc, World.size_drew] at bx31)
            have lt31 := N28.out.lt
            (try simp only [World.size_alloc, World.size_drew] at lt31)
            have rv31 := Lib.hid (((Ext.refl (w28)).alloc (.cells #[.slice none 0 0, .slice none 0 0] 27)).own rv28.out)
            have ri31 := Lib.hid (((Ext.refl (w28)).alloc (.cells #[.slice none 0 0, .slice none 0 0] 27)).own ri28.out)
            have rb31 := Lib.hid (((Ext.refl (w28)).alloc (.cells #[.slice none 0 0, .slice none 0 0] 27)).own rbn28.out)
            have N31 := Lib.hid (N28.out.step ((Ext.refl (w28)).alloc (.cells #[.slice none 0 0, .slice none 0 0] 27)))
            have BXn31 := Lib.hid bx31
            clear bx31 c0_31 c1_31 d0_31 d1_31 d2_31 d3_31
            have c0_32 := N31.out.c0
            have c1_32 := N31.out.c1
            have d0_32 := N31.out.d0
            have d1_32 := N31.out.d1
            have d2_32 := N31.out.d2
            have d3_32 := N31.out.d3
            refine wpAnyH_ready (rs := [9]) (by kernel_rfl) (by simp) ?_; refine AllReadyH.cons rfl (fun K hK => ?_) AllReadyH.nil; go_simp; (try simp only [Act.put, List.setIfInBounds_toArray, List.set_cons_zero, List.set_cons_succ]); (try go_wp2_with (go_at_call 36; refine (InsertBan_any A2 m c2 kp wq.heap.size (w.heap.size + 3) _ bs b _ HPL.out hm N31.out.lt HB.out rb31.out rv31.out NE.out).mono ?_; rintro e w32 ⟨A9, c9, rfl, op32, gp32⟩; have N32 := Lib.hid (N31.out.grow gp32 rb31.out); have ri32 := Lib.hid (ri31.out.kept gp32 (own_types ri31.out rb31.out intBan)); have BX32 := Lib.hid (BXn31.out.kept gp32 (own_types BXn31.out rb31.out tabBan)); have rb32 := Lib.hid op32; clear op32 gp32; have c0_32k := N32.out.c0; have c1_32k := N32.out.c1; have d0_32k := N32.out.d0; have d1_32k := N32.out.d1; have d2_32k := N32.out.d2; have d3_32k := N32.out.d3)); refine hK.out _ _ ?_ (fun hHeld => ?_); (focus exact ⟨c0_32k, c1_32k, d0_32k, d1_32k, d2_32k, d3_32k⟩); clear hK K; (try simp only [Act.put, List.setIfInBounds_toArray, List.set_cons_zero, List.set_cons_succ])
            (refine wpAnyH_take (i := 10) (v := ?_) rfl (by kernel_rfl) (by kernel_rfl) (by kernel_rfl) (fun _ _ _ h => h) (Or.inl ⟨by rfl, ?_⟩) (by assumption) ?_); rotate_left 1; (focus (intro w hSw; (try dsimp only at hSw); go_simp; (try with_reducible rfl))); (try simp only [Act.put, List.setIfInBounds_toArray, List.set_cons_zero, List.set_cons_succ])
            clear c0_32 c1_32 d0_32 d1_32 d2_32 d3_32
            obtain ⟨k0, k1, gx⟩ := tab_stored BX32.out (.slice A1 n c1) (.slice A9 (m + 1) c9)
            have zx : w.heap.size + 2 < w28.heap.size := lt31
            have NF := Lib.hid (N32.out.row gx zx)
            have RBF := Lib.hid (rb32.out.kept gx (own_types rb32.out BX32.out banTab))
            have RIF := Lib.hid (ri32.out.kept gx (own_types ri32.out BX32.out intTab))
            have fc0 := NF.out.c0
            have fc1 := NF.out.c1
            have fd0 := NF.out.d0
            have fd1 := NF.out.d1
            have fd2 := NF.out.d2
            have fd3 := NF.out.d3
            refine wpAnyH_ready (rs := [12]) (by kernel_rfl) (by simp) ?_; refine AllReadyH.cons rfl (fun K hK => ?_) AllReadyH.nil; refine step_store rfl 27 (.tmp 8) (.tmp 29) rfl w28.heap.size 0 [.slice A1 n c1, .slice A9 (m + 1) c9] rfl rfl (own_there BX32.out 0 2 (by simp)) sizeTab rfl rfl ?_; (try simp only [Act.put, List.setIfInBounds_toArray, List.set_cons_zero, List.set_cons_succ]); refine hK.out _ _ ?_ (fun hHeld => ?_); (focus exact ⟨fc0, fc1, fd0, fd1, fd2, fd3⟩); clear hK K; (try simp only [Act.put, List.setIfInBounds_toArray, List.set_cons_zero, List.set_cons_succ])
            refine wpAnyH_done (by kernel_rfl) ?_ _
            clear gx fc0 fc1 fd0 fd1 fd2 fd3 c0_32k c1_32k d0_32k d1_32k d2_32k d3_32k
            have K0 := Lib.hid k0
            have K1 := Lib.hid k1
            clear k0 k1
            obtain ⟨W5, hW5⟩ : ∃ W5, w32.setCells w28.heap.size 0 [.slice A1 n c1, .slice A9 (m + 1) c9] = W5 := ⟨_, rfl⟩
            rw [hW5] at K0 K1 NF RBF RIF
            rw [hW5]
            clear hW5
            obtain ⟨xb, hxb⟩ : ∃ xb, w28.heap.size = xb := ⟨_, rfl⟩
            rw [hxb] at K0 K1 zx
            rw [hxb]
            clear hxb
          rotate_left 1
        rotate_left 2
        focus
          have c0_33 := N27.out.c0
          have c1_33 := N27.out.c1
          have d0_33 := N27.out.d0
          have d1_33 := N27.out.d1
          have d2_33 := N27.out.d2
          have d3_33 := N27.out.d3
          have c0_33a := ((Ext.refl (w27)).alloc (.cells #[.slice none 0 0, .slice none 0 0] 27)).cell1 c0_33
          have c1_33a := ((Ext.refl (w27)).alloc (.cells #[.slice none 0 0, .slice none 0 0] 27)).cell1 c1_33
          have d0_33a := ((Ext.refl (w27)).alloc (.cells #[.slice none 0 0, .slice none 0 0] 27)).cell1 d0_33
          have d1_33a := ((Ext.refl (w27)).alloc (.cells #[.slice none 0 0, .slice none 0 0] 27)).cell1 d1_33
          have d2_33a := ((Ext.refl (w27)).alloc (.cells #[.slice none 0 0, .slice none 0 0] 27)).cell1 d2_33
          have d3_33a := ((Ext.refl (w27)).alloc (.cells #[.slice none 0 0, .slice none 0 0] 27)).cell1 d3_33
          go_simp; (try simp only [Act.put, List.setIfInBounds_toArray, List.set_cons_zero, List.set_cons_succ]); (try go_wp2_with fail); refine hK.out _ _ ?_ (fun hHeld => ?_); (focus exact ⟨c0_33a, c1_33a, d0_33a, d1_33a, d2_33a, d3_33a⟩); clear hK K; (try simp only [Act.put, List.setIfInBounds_toArray, List.set_cons_zero, List.set_cons_succ])
          clear c0_33a c1_33a d0_33a d1_33a d2_33a d3_33a
          have bx33 := own_low' (own_block (w27) 27 [.slice none 0 0, .slice none 0 0]) (Nat.zero_le _)
          (try simp only [World.size_alloc, World.size_drew] at bx33)
          have lt33 := N27.out.lt
          (try simp only [World.size_alloc, World.size_drew] at lt33)
          have rv33 := Lib.hid (((Ext.refl (w27)).alloc (.cells #[.slice none 0 0, .slice none 0 0] 27)).own rv27.out)
          have ri33 := Lib.hid (((Ext.refl (w27)).alloc (.cells #[.slice none 0 0, .slice none 0 0] 27)).own rin27.out)
          have N33 := Lib.hid (N27.out.step ((Ext.refl (w27)).alloc (.cells #[.slice none 0 0, .slice none 0 0] 27)))
          have BXn33 := Lib.hid bx33
          clear bx33 c0_33 c1_33 d0_33 d1_33 d2_33 d3_33
          have c0_34 := N33.out.c0
          have c1_34 := N33.out.c1
          have d0_34 := N33.out.d0
          have d1_34 := N33.out.d1
          have d2_34 := N33.out.d2
          have d3_34 := N33.out.d3
          refine wpAnyH_ready (rs := [5]) (by kernel_rfl) (by simp) ?_; refine AllReadyH.cons rfl (fun K hK => ?_) AllReadyH.nil; go_simp; (try simp only [Act.put, List.setIfInBounds_toArray, List.set_cons_zero, List.set_cons_succ]); (try go_wp2_with (go_at_call 24; refine (CloneB_any B m d bs _ hm (h.bl.rd.ext N33.out.ext)).mono ?_; rintro e w34 ⟨A2, c2, rfl, oc34, he1⟩)); refine hK.out _ _ ?_ (fun hHeld => ?_); (focus exact ⟨he1.cell1 c0_34, he1.cell1 c1_34, he1.cell1 d0_34, he1.cell1 d1_34, he1.cell1 d2_34, he1.cell1 d3_34⟩); clear hK K; (try simp only [Act.put, List.setIfInBounds_toArray, List.set_cons_zero, List.set_cons_succ])
          have ne34 : ∀ k, Value.ownBlock (.slice A2 m c2) = some k → k ≠ wq.heap.size := fun k hk => by have hh := (oc34.lt k hk).1; have h2 := (rv33.out.lt _ rfl).2; (try simp only [World.size_alloc, World.size_drew] at hh); (try simp only [World.size_alloc, World.size_drew] at h2); omega
          have NE := Lib.hid ne34
          clear ne34
          have rbn34 := Lib.hid (own_low' oc34 (show w.heap.size + 3 ≤ _ from N33.out.lt))
          have rv34 := Lib.hid (he1.own rv33.out)
          have ri34 := Lib.hid (he1.own ri33.out)
          have BX34 := Lib.hid (he1.own BXn33.out)
          have N34 := Lib.hid (N33.out.step he1)
          clear oc34 he1 c0_34 c1_34 d0_34 d1_34 d2_34 d3_34
          have c0_35 := N34.out.c0
          have c1_35 := N34.out.c1
          have d0_35 := N34.out.d0
          have d1_35 := N34.out.d1
          have d2_35 := N34.out.d2
          have d3_35 := N34.out.d3
          refine wpAnyH_ready (rs := [9]) (by kernel_rfl) (by simp) ?_; refine AllReadyH.cons rfl (fun K hK => ?_) AllReadyH.nil; go_simp; (try simp only [Act.put, List.setIfInBounds_toArray, List.set_cons_zero, List.set_cons_succ]); (try go_wp2_with (go_at_call 36; refine (InsertBan_any A2 m c2 kp wq.heap.size (w.heap.size + 3) _ bs b _ HPL.out hm N34.out.lt HB.out rbn34.out rv34.out NE.out).mono ?_; rintro e w35 ⟨A9, c9, rfl, op35, gp35⟩; have N35 := Lib.hid (N34.out.grow gp35 rbn34.out); have ri35 := Lib.hid (ri34.out.kept gp35 (own_types ri34.out rbn34.out intBan)); have BX35 := Lib.hid (BX34.out.kept gp35 (own_types BX34.out rbn34.out tabBan)); have rb35 := Lib.hid op35; clear op35 gp35; have c0_35k := N35.out.c0; have c1_35k := N35.out.c1; have d0_35k := N35.out.d0; have d1_35k := N35.out.d1; have d2_35k := N35.out.d2; have d3_35k := N35.out.d3)); refine hK.out _ _ ?_ (fun hHeld => ?_); (focus exact ⟨c0_35k, c1_35k, d0_35k, d1_35k, d2_35k, d3_35k⟩); clear hK K; (try simp only [Act.put, List.setIfInBounds_toArray, List.set_cons_zero, List.set_cons_succ])
          (refine wpAnyH_take (i := 10) (v := ?_) rfl (by kernel_rfl) (by kernel_rfl) (by kernel_rfl) (fun _ _ _ h => h) (Or.inl ⟨by rfl, ?_⟩) (by assumption) ?_); rotate_left 1; (focus (intro w hSw; (try dsimp only at hSw); go_simp; (try with_reducible rfl))); (try simp only [Act.put, List.setIfInBounds_toArray, List.set_cons_zero, List.set_cons_succ])
          clear c0_35 c1_35 d0_35 d1_35 d2_35 d3_35
          obtain ⟨k0, k1, gx⟩ := tab_stored BX35.out (.slice A1 n c1) (.slice A9 (m + 1) c9)
          have zx : w.heap.size + 2 < w27.heap.size := lt33
          have NF := Lib.hid (N35.out.row gx zx)
          have RBF := Lib.hid (rb35.out.kept gx (own_types rb35.out BX35.out banTab))
          have RIF := Lib.hid (ri35.out.kept gx (own_types ri35.out BX35.out intTab))
          have fc0 := NF.out.c0
          have fc1 := NF.out.c1
          have fd0 := NF.out.d0
          have fd1 := NF.out.d1
          have fd2 := NF.out.d2
          have fd3 := NF.out.d3
          refine wpAnyH_ready (rs := [12]) (by kernel_rfl) (by simp) ?_; refine AllReadyH.cons rfl (fun K hK => ?_) AllReadyH.nil; refine step_store rfl 27 (.tmp 8) (.tmp 29) rfl w27.heap.size 0 [.slice A1 n c1, .slice A9 (m + 1) c9] rfl rfl (own_there BX35.out 0 2 (by simp)) sizeTab rfl rfl ?_; (try simp only [Act.put, List.setIfInBounds_toArray, List.set_cons_zero, List.set_cons_succ]); refine hK.out _ _ ?_ (fun hHeld => ?_); (focus exact ⟨fc0, fc1, fd0, fd1, fd2, fd3⟩); clear hK K; (try simp only [Act.put, List.setIfInBounds_toArray, List.set_cons_zero, List.set_cons_succ])
          refine wpAnyH_done (by kernel_rfl) ?_ _
          clear gx fc0 fc1 fd0 fd1 fd2 fd3 c0_35k c1_35k d0_35k d1_35k d2_35k d3_35k
          have K0 := Lib.hid k0
          have K1 := Lib.hid k1
          clear k0 k1
          obtain ⟨W5, hW5⟩ : ∃ W5, w35.setCells w27.heap.size 0 [.slice A1 n c1, .slice A9 (m + 1) c9] = W5 := ⟨_, rfl⟩
          rw [hW5] at K0 K1 NF RBF RIF
          rw [hW5]
          clear hW5
          obtain ⟨xb, hxb⟩ : ∃ xb, w27.heap.size = xb := ⟨_, rfl⟩
          rw [hxb] at K0 K1 zx
          rw [hxb]
          clear hxb
        rotate_left 1
      rotate_left 3
      focus
        have c0_36 := N26.out.c0
        have c1_36 := N26.out.c1
        have d0_36 := N26.out.d0
        have d1_36 := N26.out.d1
        have d2_36 := N26.out.d2
        have d3_36 := N26.out.d3
        have c0_36a := ((Ext.refl ((wq.drew.alloc (.cells #[.int .i64 b.A, .int .i64 b.X, .int .i64 b.B, .int .i64 b.Y] 42)))).alloc (.cells #[.slice none 0 0, .slice none 0 0] 27)).cell1 c0_36
        have c1_36a := ((Ext.refl ((wq.drew.alloc (.cells #[.int .i64 b.A, .int .i64 b.X, .int .i64 b.B, .int .i64 b.Y] 42)))).alloc (.cells #[.slice none 0 0, .slice none 0 0] 27)).cell1 c1_36
        have d0_36a := ((Ext.refl ((wq.drew.alloc (.cells #[.int .i64 b.A, .int .i64 b.X, .int .i64 b.B, .int .i64 b.Y] 42)))).alloc (.cells #[.slice none 0 0, .slice none 0 0] 27)).cell1 d0_36
        have d1_36a := ((Ext.refl ((wq.drew.alloc (.cells #[.int .i64 b.A, .int .i64 b.X, .int .i64 b.B, .int .i64 b.Y] 42)))).alloc (.cells #[.slice none 0 0, .slice none 0 0] 27)).cell1 d1_36
        have d2_36a := ((Ext.refl ((wq.drew.alloc (.cells #[.int .i64 b.A, .int .i64 b.X, .int .i64 b.B, .int .i64 b.Y] 42)))).alloc (.cells #[.slice none 0 0, .slice none 0 0] 27)).cell1 d2_36
        have d3_36a := ((Ext.refl ((wq.drew.alloc (.cells #[.int .i64 b.A, .int .i64 b.X, .int .i64 b.B, .int .i64 b.Y] 42)))).alloc (.cells #[.slice none 0 0, .slice none 0 0] 27)).cell1 d3_36
        go_simp; (try simp only [Act.put, List.setIfInBounds_toArray, List.set_cons_zero, List.set_cons_succ]); (try go_wp2_with fail); refine hK.out _ _ ?_ (fun hHeld => ?_); (focus exact ⟨c0_36a, c1_36a, d0_36a, d1_36a, d2_36a, d3_36a⟩); clear hK K; (try simp only [Act.put, List.setIfInBounds_toArray, List.set_cons_zero, List.set_cons_succ])
        clear c0_36a c1_36a d0_36a d1_36a d2_36a d3_36a
        have bx36 := own_low' (own_block ((wq.drew.alloc (.cells #[.int .i64 b.A, .int .i64 b.X, .int .i64 b.B, .int .i64 b.Y] 42))) 27 [.slice none 0 0, .slice none 0 0]) (Nat.zero_le _)
        (try simp only [World.size_alloc, World.size_drew] at bx36)
        have lt36 := N26.out.lt
        (try simp only [World.size_alloc, World.size_drew] at lt36)
        have rv36 := Lib.hid (((Ext.refl ((wq.drew.alloc (.cells #[.int .i64 b.A, .int .i64 b.X, .int .i64 b.B, .int .i64 b.Y] 42)))).alloc (.cells #[.slice none 0 0, .slice none 0 0] 27)).own rvn26.out)
        have N36 := Lib.hid (N26.out.step ((Ext.refl ((wq.drew.alloc (.cells #[.int .i64 b.A, .int .i64 b.X, .int .i64 b.B, .int .i64 b.Y] 42)))).alloc (.cells #[.slice none 0 0, .slice none 0 0] 27)))
        have BXn36 := Lib.hid bx36
        clear bx36 c0_36 c1_36 d0_36 d1_36 d2_36 d3_36
        have c0_37 := N36.out.c0
        have c1_37 := N36.out.c1
        have d0_37 := N36.out.d0
        have d1_37 := N36.out.d1
        have d2_37 := N36.out.d2
        have d3_37 := N36.out.d3
        refine wpAnyH_ready (rs := [2]) (by kernel_rfl) (by simp) ?_; refine AllReadyH.cons rfl (fun K hK => ?_) AllReadyH.nil; go_simp; (try simp only [Act.put, List.setIfInBounds_toArray, List.set_cons_zero, List.set_cons_succ]); (try go_wp2_with (go_at_call 35; refine (CloneI_any A n c ss _ hn (h.sr.ext N36.out.ext)).mono ?_; rintro e w37 ⟨A1, c1, rfl, oc37, he1⟩)); refine hK.out _ _ ?_ (fun hHeld => ?_); (focus exact ⟨he1.cell1 c0_37, he1.cell1 c1_37, he1.cell1 d0_37, he1.cell1 d1_37, he1.cell1 d2_37, he1.cell1 d3_37⟩); clear hK K; (try simp only [Act.put, List.setIfInBounds_toArray, List.set_cons_zero, List.set_cons_succ])
        have rv37 := Lib.hid (he1.own rv36.out)
        have BX37 := Lib.hid (he1.own BXn36.out)
        have N37 := Lib.hid (N36.out.step he1)
        have lt37 := N37.out.lt
        have rin37 := Lib.hid (own_low' oc37 (show w.heap.size + 3 ≤ _ from N36.out.lt))
        clear oc37 he1 c0_37 c1_37 d0_37 d1_37 d2_37 d3_37
        have c0_38 := N37.out.c0
        have c1_38 := N37.out.c1
        have d0_38 := N37.out.d0
        have d1_38 := N37.out.d1
        have d2_38 := N37.out.d2
        have d3_38 := N37.out.d3
        refine wpAnyH_ready (rs := [5]) (by kernel_rfl) (by simp) ?_; refine AllReadyH.cons rfl (fun K hK => ?_) AllReadyH.nil; go_simp; (try simp only [Act.put, List.setIfInBounds_toArray, List.set_cons_zero, List.set_cons_succ]); (try go_wp2_with (go_at_call 24; refine (CloneB_any B m d bs _ hm (h.bl.rd.ext N37.out.ext)).mono ?_; rintro e w38 ⟨A2, c2, rfl, oc38, he1⟩)); refine hK.out _ _ ?_ (fun hHeld => ?_); (focus exact ⟨he1.cell1 c0_38, he1.cell1 c1_38, he1.cell1 d0_38, he1.cell1 d1_38, he1.cell1 d2_38, he1.cell1 d3_38⟩); clear hK K; (try simp only [Act.put, List.setIfInBounds_toArray, List.set_cons_zero, List.set_cons_succ])
        have ne38 : ∀ k, Value.ownBlock (.slice A2 m c2) = some k → k ≠ wq.heap.size := fun k hk => by have hh := (oc38.lt k hk).1; have h2 := (rv37.out.lt _ rfl).2; (try simp only [World.size_alloc, World.size_drew] at hh); (try simp only [World.size_alloc, World.size_drew] at h2); omega
        have NE := Lib.hid ne38
        clear ne38
        have rbn38 := Lib.hid (own_low' oc38 (show w.heap.size + 3 ≤ _ from N37.out.lt))
        have rv38 := Lib.hid (he1.own rv37.out)
        have BX38 := Lib.hid (he1.own BX37.out)
        have ri38 := Lib.hid (he1.own rin37.out)
        have N38 := Lib.hid (N37.out.step he1)
        clear oc38 he1 c0_38 c1_38 d0_38 d1_38 d2_38 d3_38
        have c0_39 := N38.out.c0
        have c1_39 := N38.out.c1
        have d0_39 := N38.out.d0
        have d1_39 := N38.out.d1
        have d2_39 := N38.out.d2
        have d3_39 := N38.out.d3
        refine wpAnyH_ready (rs := [9]) (by kernel_rfl) (by simp) ?_; refine AllReadyH.cons rfl (fun K hK => ?_) AllReadyH.nil; go_simp; (try simp only [Act.put, List.setIfInBounds_toArray, List.set_cons_zero, List.set_cons_succ]); (try go_wp2_with (go_at_call 36; refine (InsertBan_any A2 m c2 kp wq.heap.size (w.heap.size + 3) _ bs b _ HPL.out hm N38.out.lt HB.out rbn38.out rv38.out NE.out).mono ?_; rintro e w39 ⟨A9, c9, rfl, op39, gp39⟩; have N39 := Lib.hid (N38.out.grow gp39 rbn38.out); have BX39 := Lib.hid (BX38.out.kept gp39 (own_types BX38.out rbn38.out tabBan)); have ri39 := Lib.hid (ri38.out.kept gp39 (own_types ri38.out rbn38.out intBan)); have rb39 := Lib.hid op39; clear op39 gp39; have c0_39k := N39.out.c0; have c1_39k := N39.out.c1; have d0_39k := N39.out.d0; have d1_39k := N39.out.d1; have d2_39k := N39.out.d2; have d3_39k := N39.out.d3)); refine hK.out _ _ ?_ (fun hHeld => ?_); (focus exact ⟨c0_39k, c1_39k, d0_39k, d1_39k, d2_39k, d3_39k⟩); clear hK K; (try simp only [Act.put, List.setIfInBounds_toArray, List.set_cons_zero, List.set_cons_succ])
        (refine wpAnyH_take (i := 10) (v := ?_) rfl (by kernel_rfl) (by kernel_rfl) (by kernel_rfl) (fun _ _ _ h => h) (Or.inl ⟨by rfl, ?_⟩) (by assumption) ?_); rotate_left 1; (focus (intro w hSw; (try dsimp only at hSw); go_simp; (try with_reducible rfl))); (try simp only [Act.put, List.setIfInBounds_toArray, List.set_cons_zero, List.set_cons_succ])
        clear c0_39 c1_39 d0_39 d1_39 d2_39 d3_39
        obtain ⟨k0, k1, gx⟩ := tab_stored BX39.out (.slice A1 n c1) (.slice A9 (m + 1) c9)
        have zx : w.heap.size + 2 < (wq.heap.size + 1) := lt36
        have NF := Lib.hid (N39.out.row gx zx)
        have RBF := Lib.hid (rb39.out.kept gx (own_types rb39.out BX39.out banTab))
        have RIF := Lib.hid (ri39.out.kept gx (own_types ri39.out BX39.out intTab))
        have fc0 := NF.out.c0
        have fc1 := NF.out.c1
        have fd0 := NF.out.d0
        have fd1 := NF.out.d1
        have fd2 := NF.out.d2
        have fd3 := NF.out.d3
        refine wpAnyH_ready (rs := [12]) (by kernel_rfl) (by simp) ?_; refine AllReadyH.cons rfl (fun K hK => ?_) AllReadyH.nil; refine step_store rfl 27 (.tmp 8) (.tmp 29) rfl (wq.heap.size + 1) 0 [.slice A1 n c1, .slice A9 (m + 1) c9] rfl rfl (own_there BX39.out 0 2 (by simp)) sizeTab rfl rfl ?_; (try simp only [Act.put, List.setIfInBounds_toArray, List.set_cons_zero, List.set_cons_succ]); refine hK.out _ _ ?_ (fun hHeld => ?_); (focus exact ⟨fc0, fc1, fd0, fd1, fd2, fd3⟩); clear hK K; (try simp only [Act.put, List.setIfInBounds_toArray, List.set_cons_zero, List.set_cons_succ])
        refine wpAnyH_done (by kernel_rfl) ?_ _
        clear gx fc0 fc1 fd0 fd1 fd2 fd3 c0_39k c1_39k d0_39k d1_39k d2_39k d3_39k
        have K0 := Lib.hid k0
        have K1 := Lib.hid k1
        clear k0 k1
        obtain ⟨W5, hW5⟩ : ∃ W5, w39.setCells (wq.heap.size + 1) 0 [.slice A1 n c1, .slice A9 (m + 1) c9] = W5 := ⟨_, rfl⟩
        rw [hW5] at K0 K1 NF RBF RIF
        rw [hW5]
        clear hW5
        obtain ⟨xb, hxb⟩ : ∃ xb, (wq.heap.size + 1) = xb := ⟨_, rfl⟩
        rw [hxb] at K0 K1 zx
        rw [hxb]
        clear hxb
      rotate_left 1
    rotate_left 4
    focus
      have c0_40 := N2.out.c0
      have c1_40 := N2.out.c1
      have d0_40 := N2.out.d0
      have d1_40 := N2.out.d1
      have d2_40 := N2.out.d2
      have d3_40 := N2.out.d3
      have c0_40a := ((Ext.refl (wq.drew)).alloc (.cells #[.slice none 0 0, .slice none 0 0] 27)).cell1 c0_40
      have c1_40a := ((Ext.refl (wq.drew)).alloc (.cells #[.slice none 0 0, .slice none 0 0] 27)).cell1 c1_40
      have d0_40a := ((Ext.refl (wq.drew)).alloc (.cells #[.slice none 0 0, .slice none 0 0] 27)).cell1 d0_40
      have d1_40a := ((Ext.refl (wq.drew)).alloc (.cells #[.slice none 0 0, .slice none 0 0] 27)).cell1 d1_40
      have d2_40a := ((Ext.refl (wq.drew)).alloc (.cells #[.slice none 0 0, .slice none 0 0] 27)).cell1 d2_40
      have d3_40a := ((Ext.refl (wq.drew)).alloc (.cells #[.slice none 0 0, .slice none 0 0] 27)).cell1 d3_40
      go_simp; (try simp only [Act.put, List.setIfInBounds_toArray, List.set_cons_zero, List.set_cons_succ]); (try go_wp2_with fail); refine hK.out _ _ ?_ (fun hHeld => ?_); (focus exact ⟨c0_40a, c1_40a, d0_40a, d1_40a, d2_40a, d3_40a⟩); clear hK K; (try simp only [Act.put, List.setIfInBounds_toArray, List.set_cons_zero, List.set_cons_succ])
      clear c0_40a c1_40a d0_40a d1_40a d2_40a d3_40a
      have bx40 := own_low' (own_block (wq.drew) 27 [.slice none 0 0, .slice none 0 0]) (Nat.zero_le _)
      (try simp only [World.size_alloc, World.size_drew] at bx40)
      have lt40 := N2.out.lt
      (try simp only [World.size_alloc, World.size_drew] at lt40)
      have N40 := Lib.hid (N2.out.step ((Ext.refl (wq.drew)).alloc (.cells #[.slice none 0 0, .slice none 0 0] 27)))
      have BXn40 := Lib.hid bx40
      clear bx40 c0_40 c1_40 d0_40 d1_40 d2_40 d3_40
      refine wpAnyH_ready (rs := [2, 8]) (by kernel_rfl) (by simp) ?_; refine AllReadyH.cons rfl (fun K hK => ?_) (AllReadyH.cons rfl (fun K hK => ?_) (AllReadyH.nil))
      focus
        have c0_41 := N40.out.c0
        have c1_41 := N40.out.c1
        have d0_41 := N40.out.d0
        have d1_41 := N40.out.d1
        have d2_41 := N40.out.d2
        have d3_41 := N40.out.d3
        go_simp; (try simp only [Act.put, List.setIfInBounds_toArray, List.set_cons_zero, List.set_cons_succ]); (try go_wp2_with (go_at_call 35; refine (CloneI_any A n c ss _ hn (h.sr.ext N40.out.ext)).mono ?_; rintro e w41 ⟨A1, c1, rfl, oc41, he1⟩)); refine hK.out _ _ ?_ (fun hHeld => ?_); (focus exact ⟨he1.cell1 c0_41, he1.cell1 c1_41, he1.cell1 d0_41, he1.cell1 d1_41, he1.cell1 d2_41, he1.cell1 d3_41⟩); clear hK K; (try simp only [Act.put, List.setIfInBounds_toArray, List.set_cons_zero, List.set_cons_succ])
        have BX41 := Lib.hid (he1.own BXn40.out)
        have N41 := Lib.hid (N40.out.step he1)
        have lt41 := N41.out.lt
        have rin41 := Lib.hid (own_low' oc41 (show w.heap.size + 3 ≤ _ from N40.out.lt))
        clear oc41 he1 c0_41 c1_41 d0_41 d1_41 d2_41 d3_41
        refine wpAnyH_ready (rs := [5, 8]) (by kernel_rfl) (by simp) ?_; refine AllReadyH.cons rfl (fun K hK => ?_) (AllReadyH.cons rfl (fun K hK => ?_) (AllReadyH.nil))
        focus
          have c0_42 := N41.out.c0
          have c1_42 := N41.out.c1
          have d0_42 := N41.out.d0
          have d1_42 := N41.out.d1
          have d2_42 := N41.out.d2
          have d3_42 := N41.out.d3
          go_simp; (try simp only [Act.put, List.setIfInBounds_toArray, List.set_cons_zero, List.set_cons_succ]); (try go_wp2_with (go_at_call 24; refine (CloneB_any B m d bs _ hm (h.bl.rd.ext N41.out.ext)).mono ?_; rintro e w42 ⟨A2, c2, rfl, oc42, he1⟩)); refine hK.out _ _ ?_ (fun hHeld => ?_); (focus exact ⟨he1.cell1 c0_42, he1.cell1 c1_42, he1.cell1 d0_42, he1.cell1 d1_42, he1.cell1 d2_42, he1.cell1 d3_42⟩); clear hK K; (try simp only [Act.put, List.setIfInBounds_toArray, List.set_cons_zero, List.set_cons_succ])
          have rbn42 := Lib.hid (own_low' oc42 (show w.heap.size + 3 ≤ _ from N41.out.lt))
          have BX42 := Lib.hid (he1.own BX41.out)
          have ri42 := Lib.hid (he1.own rin41.out)
          have N42 := Lib.hid (N41.out.step he1)
          clear oc42 he1 c0_42 c1_42 d0_42 d1_42 d2_42 d3_42
          have ne43 : ∀ k, Value.ownBlock (.slice A2 m c2) = some k → k ≠ w42.heap.size := fun k hk => by have hh := (rbn42.out.lt k hk).2; (try simp only [World.size_alloc, World.size_drew] at hh); omega
          have NE := Lib.hid ne43
          clear ne43
          have c0_43 := N42.out.c0
          have c1_43 := N42.out.c1
          have d0_43 := N42.out.d0
          have d1_43 := N42.out.d1
          have d2_43 := N42.out.d2
          have d3_43 := N42.out.d3
          have c0_43a := ((Ext.refl (w42)).alloc (.cells #[.int .i64 b.A, .int .i64 b.X, .int .i64 b.B, .int .i64 b.Y] 42)).cell1 c0_43
          have c1_43a := ((Ext.refl (w42)).alloc (.cells #[.int .i64 b.A, .int .i64 b.X, .int .i64 b.B, .int .i64 b.Y] 42)).cell1 c1_43
          have d0_43a := ((Ext.refl (w42)).alloc (.cells #[.int .i64 b.A, .int .i64 b.X, .int .i64 b.B, .int .i64 b.Y] 42)).cell1 d0_43
          have d1_43a := ((Ext.refl (w42)).alloc (.cells #[.int .i64 b.A, .int .i64 b.X, .int .i64 b.B, .int .i64 b.Y] 42)).cell1 d1_43
          have d2_43a := ((Ext.refl (w42)).alloc (.cells #[.int .i64 b.A, .int .i64 b.X, .int .i64 b.B, .int .i64 b.Y] 42)).cell1 d2_43
          have d3_43a := ((Ext.refl (w42)).alloc (.cells #[.int .i64 b.A, .int .i64 b.X, .int .i64 b.B, .int .i64 b.Y] 42)).cell1 d3_43
          refine wpAnyH_ready (rs := [8]) (by kernel_rfl) (by simp) ?_; refine AllReadyH.cons rfl (fun K hK => ?_) AllReadyH.nil; go_simp; (try simp only [Act.put, List.setIfInBounds_toArray, List.set_cons_zero, List.set_cons_succ]); (try go_wp2_with fail); refine hK.out _ _ ?_ (fun hHeld => ?_); (focus exact ⟨c0_43a, c1_43a, d0_43a, d1_43a, d2_43a, d3_43a⟩); clear hK K; (try simp only [Act.put, List.setIfInBounds_toArray, List.set_cons_zero, List.set_cons_succ])
          clear c0_43a c1_43a d0_43a d1_43a d2_43a d3_43a
          have bx43 := own_low' (own_block (w42) 42 [.int .i64 b.A, .int .i64 b.X, .int .i64 b.B, .int .i64 b.Y]) (Nat.zero_le _)
          (try simp only [World.size_alloc, World.size_drew] at bx43)
          have lt43 := N42.out.lt
          (try simp only [World.size_alloc, World.size_drew] at lt43)
          have BX43 := Lib.hid (((Ext.refl (w42)).alloc (.cells #[.int .i64 b.A, .int .i64 b.X, .int .i64 b.B, .int .i64 b.Y] 42)).own BX42.out)
          have ri43 := Lib.hid (((Ext.refl (w42)).alloc (.cells #[.int .i64 b.A, .int .i64 b.X, .int .i64 b.B, .int .i64 b.Y] 42)).own ri42.out)
          have rb43 := Lib.hid (((Ext.refl (w42)).alloc (.cells #[.int .i64 b.A, .int .i64 b.X, .int .i64 b.B, .int .i64 b.Y] 42)).own rbn42.out)
          have N43 := Lib.hid (N42.out.step ((Ext.refl (w42)).alloc (.cells #[.int .i64 b.A, .int .i64 b.X, .int .i64 b.B, .int .i64 b.Y] 42)))
          have rvn43 := Lib.hid bx43
          clear bx43 c0_43 c1_43 d0_43 d1_43 d2_43 d3_43
          have c0_44 := N43.out.c0
          have c1_44 := N43.out.c1
          have d0_44 := N43.out.d0
          have d1_44 := N43.out.d1
          have d2_44 := N43.out.d2
          have d3_44 := N43.out.d3
          refine wpAnyH_ready (rs := [9]) (by kernel_rfl) (by simp) ?_; refine AllReadyH.cons rfl (fun K hK => ?_) AllReadyH.nil; go_simp; (try simp only [Act.put, List.setIfInBounds_toArray, List.set_cons_zero, List.set_cons_succ]); (try go_wp2_with (go_at_call 36; refine (InsertBan_any A2 m c2 kp w42.heap.size (w.heap.size + 3) _ bs b _ HPL.out hm N43.out.lt HB.out rb43.out rvn43.out NE.out).mono ?_; rintro e w44 ⟨A9, c9, rfl, op44, gp44⟩; have N44 := Lib.hid (N43.out.grow gp44 rb43.out); have BX44 := Lib.hid (BX43.out.kept gp44 (own_types BX43.out rb43.out tabBan)); have ri44 := Lib.hid (ri43.out.kept gp44 (own_types ri43.out rb43.out intBan)); have rb44 := Lib.hid op44; clear op44 gp44; have c0_44k := N44.out.c0; have c1_44k := N44.out.c1; have d0_44k := N44.out.d0; have d1_44k := N44.out.d1; have d2_44k := N44.out.d2; have d3_44k := N44.out.d3)); refine hK.out _ _ ?_ (fun hHeld => ?_); (focus exact ⟨c0_44k, c1_44k, d0_44k, d1_44k, d2_44k, d3_44k⟩); clear hK K; (try simp only [Act.put, List.setIfInBounds_toArray, List.set_cons_zero, List.set_cons_succ])
          (refine wpAnyH_take (i := 10) (v := ?_) rfl (by kernel_rfl) (by kernel_rfl) (by kernel_rfl) (fun _ _ _ h => h) (Or.inl ⟨by rfl, ?_⟩) (by assumption) ?_); rotate_left 1; (focus (intro w hSw; (try dsimp only at hSw); go_simp; (try with_reducible rfl))); (try simp only [Act.put, List.setIfInBounds_toArray, List.set_cons_zero, List.set_cons_succ])
          clear c0_44 c1_44 d0_44 d1_44 d2_44 d3_44
          obtain ⟨k0, k1, gx⟩ := tab_stored BX44.out (.slice A1 n c1) (.slice A9 (m + 1) c9)
          have zx : w.heap.size + 2 < wq.heap.size := lt40
          have NF := Lib.hid (N44.out.row gx zx)
          have RBF := Lib.hid (rb44.out.kept gx (own_types rb44.out BX44.out banTab))
          have RIF := Lib.hid (ri44.out.kept gx (own_types ri44.out BX44.out intTab))
          have fc0 := NF.out.c0
          have fc1 := NF.out.c1
          have fd0 := NF.out.d0
          have fd1 := NF.out.d1
          have fd2 := NF.out.d2
          have fd3 := NF.out.d3
          refine wpAnyH_ready (rs := [12]) (by kernel_rfl) (by simp) ?_; refine AllReadyH.cons rfl (fun K hK => ?_) AllReadyH.nil; refine step_store rfl 27 (.tmp 8) (.tmp 29) rfl wq.heap.size 0 [.slice A1 n c1, .slice A9 (m + 1) c9] rfl rfl (own_there BX44.out 0 2 (by simp)) sizeTab rfl rfl ?_; (try simp only [Act.put, List.setIfInBounds_toArray, List.set_cons_zero, List.set_cons_succ]); refine hK.out _ _ ?_ (fun hHeld => ?_); (focus exact ⟨fc0, fc1, fd0, fd1, fd2, fd3⟩); clear hK K; (try simp only [Act.put, List.setIfInBounds_toArray, List.set_cons_zero, List.set_cons_succ])
          refine wpAnyH_done (by kernel_rfl) ?_ _
          clear gx fc0 fc1 fd0 fd1 fd2 fd3 c0_44k c1_44k d0_44k d1_44k d2_44k d3_44k
          have K0 := Lib.hid k0
          have K1 := Lib.hid k1
          clear k0 k1
          obtain ⟨W5, hW5⟩ : ∃ W5, w44.setCells wq.heap.size 0 [.slice A1 n c1, .slice A9 (m + 1) c9] = W5 := ⟨_, rfl⟩
          rw [hW5] at K0 K1 NF RBF RIF
          rw [hW5]
          clear hW5
          obtain ⟨xb, hxb⟩ : ∃ xb, wq.heap.size = xb := ⟨_, rfl⟩
          rw [hxb] at K0 K1 zx
          rw [hxb]
          clear hxb
        rotate_left 1
        focus
          have c0_45 := N41.out.c0
          have c1_45 := N41.out.c1
          have d0_45 := N41.out.d0
          have d1_45 := N41.out.d1
          have d2_45 := N41.out.d2
          have d3_45 := N41.out.d3
          have c0_45a := ((Ext.refl (w41)).alloc (.cells #[.int .i64 b.A, .int .i64 b.X, .int .i64 b.B, .int .i64 b.Y] 42)).cell1 c0_45
          have c1_45a := ((Ext.refl (w41)).alloc (.cells #[.int .i64 b.A, .int .i64 b.X, .int .i64 b.B, .int .i64 b.Y] 42)).cell1 c1_45
          have d0_45a := ((Ext.refl (w41)).alloc (.cells #[.int .i64 b.A, .int .i64 b.X, .int .i64 b.B, .int .i64 b.Y] 42)).cell1 d0_45
          have d1_45a := ((Ext.refl (w41)).alloc (.cells #[.int .i64 b.A, .int .i64 b.X, .int .i64 b.B, .int .i64 b.Y] 42)).cell1 d1_45
          have d2_45a := ((Ext.refl (w41)).alloc (.cells #[.int .i64 b.A, .int .i64 b.X, .int .i64 b.B, .int .i64 b.Y] 42)).cell1 d2_45
          have d3_45a := ((Ext.refl (w41)).alloc (.cells #[.int .i64 b.A, .int .i64 b.X, .int .i64 b.B, .int .i64 b.Y] 42)).cell1 d3_45
          go_simp; (try simp only [Act.put, List.setIfInBounds_toArray, List.set_cons_zero, List.set_cons_succ]); (try go_wp2_with fail); refine hK.out _ _ ?_ (fun hHeld => ?_); (focus exact ⟨c0_45a, c1_45a, d0_45a, d1_45a, d2_45a, d3_45a⟩); clear hK K; (try simp only [Act.put, List.setIfInBounds_toArray, List.set_cons_zero, List.set_cons_succ])
          clear c0_45a c1_45a d0_45a d1_45a d2_45a d3_45a
          have bx45 := own_low' (own_block (w41) 42 [.int .i64 b.A, .int .i64 b.X, .int .i64 b.B, .int .i64 b.Y]) (Nat.zero_le _)
          (try simp only [World.size_alloc, World.size_drew] at bx45)
          have lt45 := N41.out.lt
          (try simp only [World.size_alloc, World.size_drew] at lt45)
          have BX45 := Lib.hid (((Ext.refl (w41)).alloc (.cells #[.int .i64 b.A, .int .i64 b.X, .int .i64 b.B, .int .i64 b.Y] 42)).own BX41.out)
          have ri45 := Lib.hid (((Ext.refl (w41)).alloc (.cells #[.int .i64 b.A, .int .i64 b.X, .int .i64 b.B, .int .i64 b.Y] 42)).own rin41.out)
          have N45 := Lib.hid (N41.out.step ((Ext.refl (w41)).alloc (.cells #[.int .i64 b.A, .int .i64 b.X, .int .i64 b.B, .int .i64 b.Y] 42)))
          have rvn45 := Lib.hid bx45
          clear bx45 c0_45 c1_45 d0_45 d1_45 d2_45 d3_45
          have c0_46 := N45.out.c0
          have c1_46 := N45.out.c1
          have d0_46 := N45.out.d0
          have d1_46 := N45.out.d1
          have d2_46 := N45.out.d2
          have d3_46 := N45.out.d3
          refine wpAnyH_ready (rs := [5]) (by kernel_rfl) (by simp) ?_; refine AllReadyH.cons rfl (fun K hK => ?_) AllReadyH.nil; go_simp; (try simp only [Act.put, List.setIfInBounds_toArray, List.set_cons_zero, List.set_cons_succ]); (try go_wp2_with (go_at_call 24; refine (CloneB_any B m d bs _ hm (h.bl.rd.ext N45.out.ext)).mono ?_; rintro e w46 ⟨A2, c2, rfl, oc46, he1⟩)); refine hK.out _ _ ?_ (fun hHeld => ?_); (focus exact ⟨he1.cell1 c0_46, he1.cell1 c1_46, he1.cell1 d0_46, he1.cell1 d1_46, he1.cell1 d2_46, he1.cell1 d3_46⟩); clear hK K; (try simp only [Act.put, List.setIfInBounds_toArray, List.set_cons_zero, List.set_cons_succ])
          have ne46 : ∀ k, Value.ownBlock (.slice A2 m c2) = some k → k ≠ w41.heap.size := fun k hk => by have hh := (oc46.lt k hk).1; have h2 := (rvn45.out.lt _ rfl).2; (try simp only [World.size_alloc, World.size_drew] at hh); (try simp only [World.size_alloc, World.size_drew] at h2); omega
          have NE := Lib.hid ne46
          clear ne46
          have rbn46 := Lib.hid (own_low' oc46 (show w.heap.size + 3 ≤ _ from N45.out.lt))
          have BX46 := Lib.hid (he1.own BX45.out)
          have ri46 := Lib.hid (he1.own ri45.out)
          have rv46 := Lib.hid (he1.own rvn45.out)
          have N46 := Lib.hid (N45.out.step he1)
          clear oc46 he1 c0_46 c1_46 d0_46 d1_46 d2_46 d3_46
          have c0_47 := N46.out.c0
          have c1_47 := N46.out.c1
          have d0_47 := N46.out.d0
          have d1_47 := N46.out.d1
          have d2_47 := N46.out.d2
          have d3_47 := N46.out.d3
          refine wpAnyH_ready (rs := [9]) (by kernel_rfl) (by simp) ?_; refine AllReadyH.cons rfl (fun K hK => ?_) AllReadyH.nil; go_simp; (try simp only [Act.put, List.setIfInBounds_toArray, List.set_cons_zero, List.set_cons_succ]); (try go_wp2_with (go_at_call 36; refine (InsertBan_any A2 m c2 kp w41.heap.size (w.heap.size + 3) _ bs b _ HPL.out hm N46.out.lt HB.out rbn46.out rv46.out NE.out).mono ?_; rintro e w47 ⟨A9, c9, rfl, op47, gp47⟩; have N47 := Lib.hid (N46.out.grow gp47 rbn46.out); have BX47 := Lib.hid (BX46.out.kept gp47 (own_types BX46.out rbn46.out tabBan)); have ri47 := Lib.hid (ri46.out.kept gp47 (own_types ri46.out rbn46.out intBan)); have rb47 := Lib.hid op47; clear op47 gp47; have c0_47k := N47.out.c0; have c1_47k := N47.out.c1; have d0_47k := N47.out.d0; have d1_47k := N47.out.d1; have d2_47k := N47.out.d2; have d3_47k := N47.out.d3)); refine hK.out _ _ ?_ (fun hHeld => ?_); (focus exact ⟨c0_47k, c1_47k, d0_47k, d1_47k, d2_47k, d3_47k⟩); clear hK K; (try simp only [Act.put, List.setIfInBounds_toArray, List.set_cons_zero, List.set_cons_succ])
          (refine wpAnyH_take (i := 10) (v := ?_) rfl (by kernel_rfl) (by kernel_rfl) (by kernel_rfl) (fun _ _ _ h => h) (Or.inl ⟨by rfl, ?_⟩) (by assumption) ?_); rotate_left 1; (focus (intro w hSw; (try dsimp only at hSw); go_simp; (try with_reducible rfl))); (try simp only [Act.put, List.setIfInBounds_toArray, List.set_cons_zero, List.set_cons_succ])
          clear c0_47 c1_47 d0_47 d1_47 d2_47 d3_47
          obtain ⟨k0, k1, gx⟩ := tab_stored BX47.out (.slice A1 n c1) (.slice A9 (m + 1) c9)
          have zx : w.heap.size + 2 < wq.heap.size := lt40
          have NF := Lib.hid (N47.out.row gx zx)
          have RBF := Lib.hid (rb47.out.kept gx (own_types rb47.out BX47.out banTab))
          have RIF := Lib.hid (ri47.out.kept gx (own_types ri47.out BX47.out intTab))
          have fc0 := NF.out.c0
          have fc1 := NF.out.c1
          have fd0 := NF.out.d0
          have fd1 := NF.out.d1
          have fd2 := NF.out.d2
          have fd3 := NF.out.d3
          refine wpAnyH_ready (rs := [12]) (by kernel_rfl) (by simp) ?_; refine AllReadyH.cons rfl (fun K hK => ?_) AllReadyH.nil; refine step_store rfl 27 (.tmp 8) (.tmp 29) rfl wq.heap.size 0 [.slice A1 n c1, .slice A9 (m + 1) c9] rfl rfl (own_there BX47.out 0 2 (by simp)) sizeTab rfl rfl ?_; (try simp only [Act.put, List.setIfInBounds_toArray, List.set_cons_zero, List.set_cons_succ]); refine hK.out _ _ ?_ (fun hHeld => ?_); (focus exact ⟨fc0, fc1, fd0, fd1, fd2, fd3⟩); clear hK K; (try simp only [Act.put, List.setIfInBounds_toArray, List.set_cons_zero, List.set_cons_succ])
          refine wpAnyH_done (by kernel_rfl) ?_ _
          clear gx fc0 fc1 fd0 fd1 fd2 fd3 c0_47k c1_47k d0_47k d1_47k d2_47k d3_47k
          have K0 := Lib.hid k0
          have K1 := Lib.hid k1
          clear k0 k1
          obtain ⟨W5, hW5⟩ : ∃ W5, w47.setCells wq.heap.size 0 [.slice A1 n c1, .slice A9 (m + 1) c9] = W5 := ⟨_, rfl⟩
          rw [hW5] at K0 K1 NF RBF RIF
          rw [hW5]
          clear hW5
          obtain ⟨xb, hxb⟩ : ∃ xb, wq.heap.size = xb := ⟨_, rfl⟩
          rw [hxb] at K0 K1 zx
          rw [hxb]
          clear hxb
        rotate_left 1
      rotate_left 2
      focus
        have c0_48 := N40.out.c0
        have c1_48 := N40.out.c1
        have d0_48 := N40.out.d0
        have d1_48 := N40.out.d1
        have d2_48 := N40.out.d2
        have d3_48 := N40.out.d3
        have c0_48a := ((Ext.refl ((wq.drew.alloc (.cells #[.slice none 0 0, .slice none 0 0] 27)))).alloc (.cells #[.int .i64 b.A, .int .i64 b.X, .int .i64 b.B, .int .i64 b.Y] 42)).cell1 c0_48
        have c1_48a := ((Ext.refl ((wq.drew.alloc (.cells #[.slice none 0 0, .slice none 0 0] 27)))).alloc (.cells #[.int .i64 b.A, .int .i64 b.X, .int .i64 b.B, .int .i64 b.Y] 42)).cell1 c1_48
        have d0_48a := ((Ext.refl ((wq.drew.alloc (.cells #[.slice none 0 0, .slice none 0 0] 27)))).alloc (.cells #[.int .i64 b.A, .int .i64 b.X, .int .i64 b.B, .int .i64 b.Y] 42)).cell1 d0_48
        have d1_48a := ((Ext.refl ((wq.drew.alloc (.cells #[.slice none 0 0, .slice none 0 0] 27)))).alloc (.cells #[.int .i64 b.A, .int .i64 b.X, .int .i64 b.B, .int .i64 b.Y] 42)).cell1 d1_48
        have d2_48a := ((Ext.refl ((wq.drew.alloc (.cells #[.slice none 0 0, .slice none 0 0] 27)))).alloc (.cells #[.int .i64 b.A, .int .i64 b.X, .int .i64 b.B, .int .i64 b.Y] 42)).cell1 d2_48
        have d3_48a := ((Ext.refl ((wq.drew.alloc (.cells #[.slice none 0 0, .slice none 0 0] 27)))).alloc (.cells #[.int .i64 b.A, .int .i64 b.X, .int .i64 b.B, .int .i64 b.Y] 42)).cell1 d3_48
        go_simp; (try simp only [Act.put, List.setIfInBounds_toArray, List.set_cons_zero, List.set_cons_succ]); (try go_wp2_with fail); refine hK.out _ _ ?_ (fun hHeld => ?_); (focus exact ⟨c0_48a, c1_48a, d0_48a, d1_48a, d2_48a, d3_48a⟩); clear hK K; (try simp only [Act.put, List.setIfInBounds_toArray, List.set_cons_zero, List.set_cons_succ])
        clear c0_48a c1_48a d0_48a d1_48a d2_48a d3_48a
        have bx48 := own_low' (own_block ((wq.drew.alloc (.cells #[.slice none 0 0, .slice none 0 0] 27))) 42 [.int .i64 b.A, .int .i64 b.X, .int .i64 b.B, .int .i64 b.Y]) (Nat.zero_le _)
        (try simp only [World.size_alloc, World.size_drew] at bx48)
        have lt48 := N40.out.lt
        (try simp only [World.size_alloc, World.size_drew] at lt48)
        have BX48 := Lib.hid (((Ext.refl ((wq.drew.alloc (.cells #[.slice none 0 0, .slice none 0 0] 27)))).alloc (.cells #[.int .i64 b.A, .int .i64 b.X, .int .i64 b.B, .int .i64 b.Y] 42)).own BXn40.out)
        have N48 := Lib.hid (N40.out.step ((Ext.refl ((wq.drew.alloc (.cells #[.slice none 0 0, .slice none 0 0] 27)))).alloc (.cells #[.int .i64 b.A, .int .i64 b.X, .int .i64 b.B, .int .i64 b.Y] 42)))
        have rvn48 := Lib.hid bx48
        clear bx48 c0_48 c1_48 d0_48 d1_48 d2_48 d3_48
        have c0_49 := N48.out.c0
        have c1_49 := N48.out.c1
        have d0_49 := N48.out.d0
        have d1_49 := N48.out.d1
        have d2_49 := N48.out.d2
        have d3_49 := N48.out.d3
        refine wpAnyH_ready (rs := [2]) (by kernel_rfl) (by simp) ?_; refine AllReadyH.cons rfl (fun K hK => ?_) AllReadyH.nil; go_simp; (try simp only [Act.put, List.setIfInBounds_toArray, List.set_cons_zero, List.set_cons_succ]); (try go_wp2_with (go_at_call 35; refine (CloneI_any A n c ss _ hn (h.sr.ext N48.out.ext)).mono ?_; rintro e w49 ⟨A1, c1, rfl, oc49, he1⟩)); refine hK.out _ _ ?_ (fun hHeld => ?_); (focus exact ⟨he1.cell1 c0_49, he1.cell1 c1_49, he1.cell1 d0_49, he1.cell1 d1_49, he1.cell1 d2_49, he1.cell1 d3_49⟩); clear hK K; (try simp only [Act.put, List.setIfInBounds_toArray, List.set_cons_zero, List.set_cons_succ])
        have BX49 := Lib.hid (he1.own BX48.out)
        have rv49 := Lib.hid (he1.own rvn48.out)
        have N49 := Lib.hid (N48.out.step he1)
        have lt49 := N49.out.lt
        have rin49 := Lib.hid (own_low' oc49 (show w.heap.size + 3 ≤ _ from N48.out.lt))
        clear oc49 he1 c0_49 c1_49 d0_49 d1_49 d2_49 d3_49
        have c0_50 := N49.out.c0
        have c1_50 := N49.out.c1
        have d0_50 := N49.out.d0
        have d1_50 := N49.out.d1
        have d2_50 := N49.out.d2
        have d3_50 := N49.out.d3
        refine wpAnyH_ready (rs := [5]) (by kernel_rfl) (by simp) ?_; refine AllReadyH.cons rfl (fun K hK => ?_) AllReadyH.nil; go_simp; (try simp only [Act.put, List.setIfInBounds_toArray, List.set_cons_zero, List.set_cons_succ]); (try go_wp2_with (go_at_call 24; refine (CloneB_any B m d bs _ hm (h.bl.rd.ext N49.out.ext)).mono ?_; rintro e w50 ⟨A2, c2, rfl, oc50, he1⟩)); refine hK.out _ _ ?_ (fun hHeld => ?_); (focus exact ⟨he1.cell1 c0_50, he1.cell1 c1_50, he1.cell1 d0_50, he1.cell1 d1_50, he1.cell1 d2_50, he1.cell1 d3_50⟩); clear hK K; (try simp only [Act.put, List.setIfInBounds_toArray, List.set_cons_zero, List.set_cons_succ])
        have ne50 : ∀ k, Value.ownBlock (.slice A2 m c2) = some k → k ≠ (wq.heap.size + 1) := fun k hk => by have hh := (oc50.lt k hk).1; have h2 := (rv49.out.lt _ rfl).2; (try simp only [World.size_alloc, World.size_drew] at hh); (try simp only [World.size_alloc, World.size_drew] at h2); omega
        have NE := Lib.hid ne50
        clear ne50
        have rbn50 := Lib.hid (own_low' oc50 (show w.heap.size + 3 ≤ _ from N49.out.lt))
        have BX50 := Lib.hid (he1.own BX49.out)
        have rv50 := Lib.hid (he1.own rv49.out)
        have ri50 := Lib.hid (he1.own rin49.out)
        have N50 := Lib.hid (N49.out.step he1)
        clear oc50 he1 c0_50 c1_50 d0_50 d1_50 d2_50 d3_50
        have c0_51 := N50.out.c0
        have c1_51 := N50.out.c1
        have d0_51 := N50.out.d0
        have d1_51 := N50.out.d1
        have d2_51 := N50.out.d2
        have d3_51 := N50.out.d3
        refine wpAnyH_ready (rs := [9]) (by kernel_rfl) (by simp) ?_; refine AllReadyH.cons rfl (fun K hK => ?_) AllReadyH.nil; go_simp; (try simp only [Act.put, List.setIfInBounds_toArray, List.set_cons_zero, List.set_cons_succ]); (try go_wp2_with (go_at_call 36; refine (InsertBan_any A2 m c2 kp (wq.heap.size + 1) (w.heap.size + 3) _ bs b _ HPL.out hm N50.out.lt HB.out rbn50.out rv50.out NE.out).mono ?_; rintro e w51 ⟨A9, c9, rfl, op51, gp51⟩; have N51 := Lib.hid (N50.out.grow gp51 rbn50.out); have BX51 := Lib.hid (BX50.out.kept gp51 (own_types BX50.out rbn50.out tabBan)); have ri51 := Lib.hid (ri50.out.kept gp51 (own_types ri50.out rbn50.out intBan)); have rb51 := Lib.hid op51; clear op51 gp51; have c0_51k := N51.out.c0; have c1_51k := N51.out.c1; have d0_51k := N51.out.d0; have d1_51k := N51.out.d1; have d2_51k := N51.out.d2; have d3_51k := N51.out.d3)); refine hK.out _ _ ?_ (fun hHeld => ?_); (focus exact ⟨c0_51k, c1_51k, d0_51k, d1_51k, d2_51k, d3_51k⟩); clear hK K; (try simp only [Act.put, List.setIfInBounds_toArray, List.set_cons_zero, List.set_cons_succ])
        (refine wpAnyH_take (i := 10) (v := ?_) rfl (by kernel_rfl) (by kernel_rfl) (by kernel_rfl) (fun _ _ _ h => h) (Or.inl ⟨by rfl, ?_⟩) (by assumption) ?_); rotate_left 1; (focus (intro w hSw; (try dsimp only at hSw); go_simp; (try with_reducible rfl))); (try simp only [Act.put, List.setIfInBounds_toArray, List.set_cons_zero, List.set_cons_succ])
        clear c0_51 c1_51 d0_51 d1_51 d2_51 d3_51
        obtain ⟨k0, k1, gx⟩ := tab_stored BX51.out (.slice A1 n c1) (.slice A9 (m + 1) c9)
        have zx : w.heap.size + 2 < wq.heap.size := lt40
        have NF := Lib.hid (N51.out.row gx zx)
        have RBF := Lib.hid (rb51.out.kept gx (own_types rb51.out BX51.out banTab))
        have RIF := Lib.hid (ri51.out.kept gx (own_types ri51.out BX51.out intTab))
        have fc0 := NF.out.c0
        have fc1 := NF.out.c1
        have fd0 := NF.out.d0
        have fd1 := NF.out.d1
        have fd2 := NF.out.d2
        have fd3 := NF.out.d3
        refine wpAnyH_ready (rs := [12]) (by kernel_rfl) (by simp) ?_; refine AllReadyH.cons rfl (fun K hK => ?_) AllReadyH.nil; refine step_store rfl 27 (.tmp 8) (.tmp 29) rfl wq.heap.size 0 [.slice A1 n c1, .slice A9 (m + 1) c9] rfl rfl (own_there BX51.out 0 2 (by simp)) sizeTab rfl rfl ?_; (try simp only [Act.put, List.setIfInBounds_toArray, List.set_cons_zero, List.set_cons_succ]); refine hK.out _ _ ?_ (fun hHeld => ?_); (focus exact ⟨fc0, fc1, fd0, fd1, fd2, fd3⟩); clear hK K; (try simp only [Act.put, List.setIfInBounds_toArray, List.set_cons_zero, List.set_cons_succ])
        refine wpAnyH_done (by kernel_rfl) ?_ _
        clear gx fc0 fc1 fd0 fd1 fd2 fd3 c0_51k c1_51k d0_51k d1_51k d2_51k d3_51k
        have K0 := Lib.hid k0
        have K1 := Lib.hid k1
        clear k0 k1
        obtain ⟨W5, hW5⟩ : ∃ W5, w51.setCells wq.heap.size 0 [.slice A1 n c1, .slice A9 (m + 1) c9] = W5 := ⟨_, rfl⟩
        rw [hW5] at K0 K1 NF RBF RIF
        rw [hW5]
        clear hW5
        obtain ⟨xb, hxb⟩ : ∃ xb, wq.heap.size = xb := ⟨_, rfl⟩
        rw [hxb] at K0 K1 zx
        rw [hxb]
        clear hxb
      rotate_left 1
    rotate_left 3
    all_goals
      have TF := Lib.hid (show TabL W5 A1 n A9 (m + 1) ss (insB bs b) from ⟨h.sl, h.sm, h.sw, Rd.own RIF.out, ⟨by rw [HIL.out, HB.out], by omega, fun x hx => by (rw [HIN.out] at hx; rcases List.mem_append.1 hx with hx | hx; exact h.bl.wf x (List.mem_of_mem_take hx); rcases List.mem_cons.1 hx with rfl | hx; exact hbw; exact h.bl.wf x (List.mem_of_mem_drop hx)), by rw [HIN.out]; exact Rd.own RBF.out⟩⟩)
      have CK := Lib.hid (isKindTable_any xb A1 n c1 A9 (m + 1) c9 ss (insB bs b) W5 TF.out K0.out K1.out)
      clear TF
      cases hfd : foundB bs b
      · cases hT : TabOk ss (insB bs b)
        · rw [hT] at CK
          go_wp2_with (first | (go_at_call 21; refine CK.out.mono ?_; rintro e w6 ⟨rfl, h6⟩; have N6 := Lib.hid (NF.out.step h6)) | (refine wpList_store_own rfl 27 (.tmp 4) (.tmp 35) rfl (w.heap.size + 2) 0 [.slice none 0 0, .slice none 0 0] rfl rfl 0 27 2 1 1 _ N6.out.r (by simp) sizeTab rfl ?_; intro w7 ho7 hg7))
          have r0 := own_at ho7 (j := 0) rfl
          have r1 := own_at ho7 (j := 1) rfl
          try rw [hT]
          exact bodyPost_ret (v := .tuple #[.agg #[.slice none 0 0, .slice none 0 0], .bool false]) (by simp [results, Try.results17, go_sem, r0, r1]) rfl ⟨none, 0, 0, none, 0, 0, rfl, own_nil _ _ _ _, own_nil _ _ _ _, N6.out.ext.row hg7 (by omega)⟩
        · rw [hT] at CK
          go_wp2_with (first | (go_at_call 21; refine CK.out.mono ?_; rintro e w6 ⟨rfl, h6⟩; have N6 := Lib.hid (NF.out.step h6); have k0 := h6.cell1 K0.out; have k1 := h6.cell1 K1.out; have hxz : xb < w6.heap.size := World.block_lt_of_cell? w6 _ k0) | (refine wpList_store_own rfl 27 (.tmp 4) (.tmp 36) rfl (w.heap.size + 2) 0 [.slice A1 n c1, .slice A9 (m + 1) c9] rfl rfl 0 27 2 1 1 _ N6.out.r (by simp) sizeTab rfl ?_; intro w7 ho7 hg7))
          have r0 := own_at ho7 (j := 0) rfl
          have r1 := own_at ho7 (j := 1) rfl
          have ri := (h6.own RIF.out).kept hg7 (ne_row (fun k hk => by have := (RIF.out.lt k hk).1; omega))
          have rb := (h6.own RBF.out).kept hg7 (ne_row (fun k hk => by have := (RBF.out.lt k hk).1; omega))
          try rw [hT]
          exact bodyPost_ret (v := .tuple #[.agg #[.slice A1 n c1, .slice A9 (m + 1) c9], .bool true]) (by simp [results, Try.results17, go_sem, r0, r1]) rfl ⟨A1, n, c1, A9, m + 1, c9, rfl, own_low' ri (by omega), by rw [if_pos rfl, HIN.out]; exact own_low' rb (by omega), N6.out.ext.row hg7 (by omega)⟩
      · have hT := HFB.out hfd
        rw [hT]
        go_wp2_with (refine wpList_store_own rfl 27 (.tmp 4) (.tmp 35) rfl (w.heap.size + 2) 0 [.slice none 0 0, .slice none 0 0] rfl rfl 0 27 2 1 1 _ NF.out.r (by simp) sizeTab rfl ?_; intro w7 ho7 hg7)
        have r0 := own_at ho7 (j := 0) rfl
        have r1 := own_at ho7 (j := 1) rfl
        try rw [hT]
        exact bodyPost_ret (v := .tuple #[.agg #[.slice none 0 0, .slice none 0 0], .bool false]) (by simp [results, Try.results17, go_sem, r0, r1]) rfl ⟨none, 0, 0, none, 0, 0, rfl, own_nil _ _ _ _, own_nil _ _ _ _, NF.out.ext.row hg7 (by omega)⟩
end Go.Proofs.Ytekggbmpogmlcaa
