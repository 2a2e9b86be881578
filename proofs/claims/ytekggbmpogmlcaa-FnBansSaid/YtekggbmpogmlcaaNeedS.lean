/- NeedlessBans: the reference's entry (made by wip/needs.py). -/
import Derived.Test.YtekggbmpogmlcaaNeed
namespace Go.Proofs.Ytekggbmpogmlcaa
open Go.RowKit
set_option linter.unusedVariables false
set_option linter.unusedSimpArgs false
attribute [local go_sem] ExtOf.cell

theorem NSt.grow {w W W' : World} {u0 u1 : Value} {O : Option Addr} {p pc : Nat} {L : List Int} (h : NSt w u0 u1 O p pc L W) {v : Value} {T s q : Nat} {cs : List Value} (hg : W.grownBy W' v.ownBlock) (ho : W.ownsRow (w.heap.size + 1) T s v q cs) (hT : (3 : Nat) ≠ T) : NSt w u0 u1 O p pc L W' := by
  obtain ⟨X, xc, rfl⟩ := own_slice ho
  exact ⟨h.box.grow ho hg, h.out.kept hg (own_types h.out ho hT)⟩
theorem step_app_own {P : Program} {ops : Array Oper} {o : Oper} {a : Act} {w : World} {K : Act → World → Prop} {Q : Exit → Act → World → Prop} {E : Prop}
    (hg : o.guard = none) (s x : Operand) (t : TypeId) (hop : o.op = Op.call { callee := Callee.builtin Builtin.append, args := #[s, x], argTypes := #[t, t] })
    (base : Nat) (e : TypeId) (i : TypeInfo) (z : Value) (size bytes : Nat) (ht : P.underlying t = some (.slice e)) (hi : P.info? e = some i) (hz : i.zero = some z)
    (hsize : i.size = size) (hby : i.bytes = bytes) (hzs : z.cells.size = size) (hsz : 0 < size)
    (v : Value) (n : Nat) (xs : List Value) (hs : a.eval s = v) (hown : w.ownsRow base e size v n xs)
    (ad : Addr) (m c : Nat) (news : List Value) (hx : a.eval x = .slice (some ad) m c) (hl : news.length = m * size) (hnews : ∀ j u, news[j]? = some u → w.cell? (ad.add j) = some u) (h1 : ∀ u ∈ news, u.oneCell' = true)
    (h63 : n + m ≤ maxLen) (hbytes : (n + m) * bytes ≤ 140737488355328) (hbase : base ≤ w.heap.size) (k : Nat) (hd : o.dst = some k)
    (N : Nat) (hN : n + m = N) (R : List Value) (hR : xs ++ news = R)
    (h : ∀ A' c' w', w'.ownsRow base e size (.slice A' N c') N R → w.grownBy w' v.ownBlock → K (a.put (some k) (.slice A' N c')) w') :
    if Region.wanted o (yielded ops a.tmps) = true then Oper.wp P o a w K Q else E := by
  have hw : Region.wanted o (yielded ops a.tmps) = true := by simp [Region.wanted, hg]
  rw [if_pos hw]
  refine wp_append_own w s x t hop base e i z size bytes ht hi hz hsize hby hzs hsz v n xs hs hown ad m c news hx hl hnews h1 h63 hbytes hbase (fun v' w' h1 h2 _ => ?_)
  rw [hN, hR] at h1
  obtain ⟨A', c', rfl⟩ := own_slice h1
  rw [hd]
  exact h A' c' w' h1 h2
set_option maxRecDepth 100000 in
set_option maxHeartbeats 4000000 in
theorem NeedlessBansS_any (A : Option Addr) (n c : Nat) (B : Option Addr) (m d : Nat) (ss : List Int) (bs : List Ban) (w : World) (h : TabL w A n B m ss bs) (hmd : m ≤ d) :
    Calls Try.prog 7 #[.agg #[.slice A n c, .slice B m d]] w (NeedPost (needR ss bs) (TabOk ss bs) w) := by
  obtain ⟨i0, hi0, hz0v, hz1, hz2⟩ := info_parts infoBan
  have eW := ((Ext.refl w).alloc (.cells #[.slice A n c, .slice B m d] 27)).alloc (.cells #[] 3)
  have hs1 : (w.alloc (.cells #[.slice A n c, .slice B m d] 27)).heap.size = w.heap.size + 1 := by simp
  have o0 := own_empty (w.alloc (.cells #[.slice A n c, .slice B m d] 27)) (w.heap.size + 1) 3 1 (by omega)
  rw [hs1] at o0
  have b0 := Lib.hid (show Box2 w (.slice A n c) (.slice B m d) ((w.alloc (.cells #[.slice A n c, .slice B m d] 27)).alloc (.cells #[] 3)) from ⟨eW, ((Ext.refl _).alloc _).cell1 (new_cell _ _ _ 0 _ rfl), ((Ext.refl _).alloc _).cell1 (new_cell _ _ _ 1 _ rfl)⟩)
  have C := Lib.hid (l6Good_any A n c B m d ss bs _ (h.ext eW))
  have O0 := Lib.hid o0
  clear o0
  cases h1 : TabOk ss bs
  · rw [needR_no h1]
    go_enter Try.func7, Try.ntmps7
    go_wp2_with (go_at_call 25; refine C.out.mono ?_; rintro e we ⟨rfl, he⟩; rw [h1])
    go_ret2
    exact ⟨some ⟨w.heap.size + 1, 0, none⟩, 0, 0, rfl, own_low' (he.own O0.out) (by omega), eW.trans he⟩
  · obtain ⟨⟨t1, t2⟩, t3, t4, t5⟩ := TabOk_all h1
    have D := Lib.hid (fun (w' : World) (he : Ext w w') => l6With_any A n c B m d ss bs (-1) 0 w' (h.ext he) t4 t2 t5 (by omega))
    rw [needR_yes h1]
    have hn := h.sm
    have hm := h.bl.small
    have HB := Lib.hid h.bl.len
    have HQ := Lib.hid (with_all ss bs)
    have HP := Lib.hid (show ∀ i, needP ss bs i = decide ((frees ss (bs.eraseIdx i)).length = (frees ss bs).length) from fun i => rfl)
    have HT := Lib.hid (⟨t4, t2, t5⟩ : (∀ s ∈ ss, 1 ≤ s ∧ s ≤ 5) ∧ ss.length ≤ 5 ∧ ∀ b ∈ bs, banFits ss b = true)
    have hcap : (frees ss bs).length ≤ 3125 := by
      rw [← HQ.out]; have := cnt_le (withP ss bs (-1) 0) (allN ss); have := allN_small t4 t2; omega
    clear t1 t2 t3 t4 t5
    generalize hq : (frees ss bs).length = q at *
    rw [HQ.out] at D
    have HQ3 := Lib.hid hq
    clear hq HQ
    go_enter Try.func7, Try.ntmps7
    go_wp2_with (first | (go_at_call 25; refine C.out.mono ?_; rintro e we ⟨rfl, he⟩; rw [h1]; have B1 := Lib.hid (b0.out.step he); have p0 := B1.out.c0; have p1 := B1.out.c1; have hz : w.heap.size < we.heap.size := World.block_lt_of_cell? we _ p0) | (go_at_call 26; refine (D.out _ B1.out.ext).mono ?_; rintro e wf ⟨rfl, hf⟩))
    have N1 := Lib.hid (show NSt w (.slice A n c) (.slice B m d) (some ⟨w.heap.size + 1, 0, none⟩) 0 0 [] wf from ⟨B1.out.step hf, hf.own (he.own O0.out)⟩)
    clear C D O0 b0 B1 p0 p1 eW he hf hs1 hz
    go_loopw [4, 6] (fun o i wr => ∃ (k : Nat) (O : Option Addr) (p pc : Nat) (L : List Int), k ≤ m ∧ i = .int .i64 k ∧ o = .slice O p pc ∧ L = idxs (needP ss bs) k ∧ NSt w (.slice A n c) (.slice B m d) O p pc L wr) (fun _ i _ => m - (intOf i).toNat)
    case atStart => exact ⟨0, _, 0, 0, [], Nat.zero_le _, rfl, rfl, rfl, N1.out⟩
    case round =>
      obtain ⟨k, O, p, pc, L, hkn, rfl, rfl, hL, hek⟩ := hrel
      have HEK := Lib.hid hek
      have HLL := Lib.hid hL
      have hp2 : p ≤ k := by
        have h1 := hek.out.1
        have h2 := idxs_len (needP ss bs) k
        rw [ints_length, hL] at h1
        omega
      have x0 := hek.box.c0
      have x1 := hek.box.c1
      have hz0 : w.heap.size < wr.heap.size := World.block_lt_of_cell? wr _ x0
      clear hL hek N1
      by_cases hlt : k < m
      · have w1 : IntKind.i64.wrap ((k : Int) + 1) = (k : Int) + 1 := IntWalk.i64_in _ (by omega)
        obtain ⟨mm, hmm⟩ : ∃ mm, m = mm + 1 := ⟨m - 1, by omega⟩
        obtain ⟨b, off, hB, hbw, hcells⟩ := h.bl.rd.2 (by omega)
        subst hB
        have HBD := Lib.hid (fun (W : World) (he : Ext w W) j u hj => he.cell1 (hcells j u hj))
        have HMM := Lib.hid hmm
        have hmb : k ≤ mm ∧ mm ≤ 1048576 ∧ k + (m - (k + 1)) = mm := by omega
        obtain ⟨A2, hA2, hsrc⟩ : ∃ A2 : Addr, (if d = k + 1 then some (⟨b, off, none⟩ : Addr) else some ⟨b, off + (k + 1) * 4, none⟩) = some A2 ∧ Hid (∀ W, Ext w W → ∀ j u, ((bs.drop (k + 1)).flatMap Ban.cs)[j]? = some u → W.cell? (A2.add j) = some u) := by
          have hl2 : ((bs.drop (k + 1)).flatMap Ban.cs).length = (m - (k + 1)) * 4 := by rw [bans_len, List.length_drop, HB.out]
          by_cases hd : d = k + 1
          · refine ⟨⟨b, off, none⟩, by simp [hd], fun W he j u hu => ?_⟩
            have h0 : ((bs.drop (k + 1)).flatMap Ban.cs).length = 0 := by rw [hl2]; omega
            rw [List.length_eq_zero_iff.1 h0] at hu
            simp at hu
          · refine ⟨⟨b, off + (k + 1) * 4, none⟩, by simp [hd], fun W he j u hu => ?_⟩
            rw [Addr.add_mid, Nat.add_assoc]
            refine HBD.out W he _ _ ?_
            have e1 : bs.flatMap Ban.cs = (bs.take (k + 1)).flatMap Ban.cs ++ (bs.drop (k + 1)).flatMap Ban.cs := by rw [← List.flatMap_append, List.take_append_drop]
            rw [e1, List.getElem?_append_right (by rw [bans_len, List.length_take, HB.out]; omega), bans_len, List.length_take, HB.out, Nat.min_eq_left (by omega), Nat.add_sub_cancel_left]
            exact hu
        have HS1 := Lib.hid (show ∀ W, Ext w W → ∀ j u, ((bs.take k).flatMap Ban.cs)[j]? = some u → W.cell? ((⟨b, off, none⟩ : Addr).add j) = some u from fun W he j u hu => by
          rw [Addr.add_mid]
          refine HBD.out W he _ _ ?_
          have e1 : bs.flatMap Ban.cs = (bs.take k).flatMap Ban.cs ++ (bs.drop k).flatMap Ban.cs := by rw [← List.flatMap_append, List.take_append_drop]
          rw [e1, List.getElem?_append_left ((List.getElem?_eq_some_iff.1 hu).1)]
          exact hu)
        have HL1 := Lib.hid (show ((bs.take k).flatMap Ban.cs).length = k * 4 by rw [bans_len, List.length_take, HB.out, Nat.min_eq_left (by omega)])
        have HL2 := Lib.hid (show ((bs.drop (k + 1)).flatMap Ban.cs).length = (m - (k + 1)) * 4 by rw [bans_len, List.length_drop, HB.out])
        have HE := Lib.hid (show (bs.take k).flatMap Ban.cs ++ (bs.drop (k + 1)).flatMap Ban.cs = (bs.eraseIdx k).flatMap Ban.cs by rw [List.eraseIdx_eq_take_drop_succ, List.flatMap_append])
        have hkd : k ≤ d := by omega
        have hkd1 : k + 1 ≤ d := by omega
        have hz1' : (0 : Int) ≤ (k : Int) + 1 := by omega
        have hz2' : (k : Int) + 1 ≤ (m : Int) := by omega
        have hz3' : k + 1 ≤ m := by omega
        have N0 := Lib.hid (HEK.out.step (Ext.refl wr).drew)
        clear hmm hcells HBD
        go_wp2
        refine wp_region_held_drew (S := (fun w' => w'.cell? ⟨w.heap.size, 0, none⟩ = some (.slice A n c) ∧ w'.cell? ⟨w.heap.size, 1, none⟩ = some (.slice (some ⟨b, off, none⟩) m d))) (by kernel_rfl) ?_ (fun hHeld => ?_); (focus ((try dsimp only); (repeat' apply And.intro) <;> first | assumption | exact Ext.cell1 (Ext.drew (Ext.refl _)) (by assumption) | (simp [*, go_sem]; done) | (simp [*, go_sem, World.cell?_alloc_past]; done)))
        (refine wpAnyH_take (i := 0) (v := ?_) rfl (by kernel_rfl) (by kernel_rfl) (by kernel_rfl) (fun _ _ _ h => h) (Or.inl ⟨by rfl, ?_⟩) (by assumption) ?_); rotate_left 1; (focus (intro w hSw; (try dsimp only at hSw); go_simp; (try with_reducible rfl))); (try simp only [Act.put, List.setIfInBounds_toArray, List.set_cons_zero, List.set_cons_succ]); (refine wpAnyH_take (i := 1) (v := ?_) rfl (by kernel_rfl) (by kernel_rfl) (by kernel_rfl) (fun _ _ _ h => h) (Or.inl ⟨by rfl, ?_⟩) (by assumption) ?_); rotate_left 1; (focus (intro w hSw; (try dsimp only at hSw); go_simp; (try with_reducible rfl))); (try simp only [Act.put, List.setIfInBounds_toArray, List.set_cons_zero, List.set_cons_succ]); (refine wpAnyH_take (i := 3) (v := ?_) rfl (by kernel_rfl) (by kernel_rfl) (by kernel_rfl) (fun _ _ _ h => h) (Or.inl ⟨by rfl, ?_⟩) (by assumption) ?_); rotate_left 1; (focus (intro w hSw; (try dsimp only at hSw); go_simp; (try with_reducible rfl))); (try simp only [Act.put, List.setIfInBounds_toArray, List.set_cons_zero, List.set_cons_succ]); (refine wpAnyH_take (i := 4) (v := ?_) rfl (by kernel_rfl) (by kernel_rfl) (by kernel_rfl) (fun _ _ _ h => h) (Or.inl ⟨by rfl, ?_⟩) (by assumption) ?_); rotate_left 1; (focus (intro w hSw; (try dsimp only at hSw); go_simp; (try with_reducible rfl))); (try simp only [Act.put, List.setIfInBounds_toArray, List.set_cons_zero, List.set_cons_succ]); (refine wpAnyH_take (i := 5) (v := ?_) rfl (by kernel_rfl) (by kernel_rfl) (by kernel_rfl) (fun _ _ _ h => h) (Or.inl ⟨by rfl, ?_⟩) (by assumption) ?_); rotate_left 1; (focus (intro w hSw; (try dsimp only at hSw); go_simp; (try with_reducible rfl))); (try simp only [Act.put, List.setIfInBounds_toArray, List.set_cons_zero, List.set_cons_succ]); (refine wpAnyH_take (i := 6) (v := ?_) rfl (by kernel_rfl) (by kernel_rfl) (by kernel_rfl) (fun _ _ _ h => h) (Or.inl ⟨by rfl, ?_⟩) (by assumption) ?_); rotate_left 1; (focus (intro w hSw; (try dsimp only at hSw); go_simp; (try with_reducible rfl))); (try simp only [Act.put, List.setIfInBounds_toArray, List.set_cons_zero, List.set_cons_succ]); (refine wpAnyH_take (i := 8) (v := ?_) rfl (by kernel_rfl) (by kernel_rfl) (by kernel_rfl) (fun _ _ _ h => h) (Or.inl ⟨by rfl, ?_⟩) (by assumption) ?_); rotate_left 1; (focus (intro w hSw; (try dsimp only at hSw); go_simp; (try with_reducible rfl))); (try simp only [Act.put, List.setIfInBounds_toArray, List.set_cons_zero, List.set_cons_succ]); (refine wpAnyH_take (i := 9) (v := ?_) rfl (by kernel_rfl) (by kernel_rfl) (by kernel_rfl) (fun _ _ _ h => h) (Or.inl ⟨by rfl, ?_⟩) (by assumption) ?_); rotate_left 1; (focus (intro w hSw; (try dsimp only at hSw); go_simp; (try with_reducible rfl))); (try simp only [Act.put, List.setIfInBounds_toArray, List.set_cons_zero, List.set_cons_succ]); (refine wpAnyH_take (i := 10) (v := ?_) rfl (by kernel_rfl) (by kernel_rfl) (by kernel_rfl) (fun _ _ _ h => h) (Or.inl ⟨by rfl, ?_⟩) (by assumption) ?_); rotate_left 1; (focus (intro w hSw; (try dsimp only at hSw); go_simp; (try with_reducible rfl))); (try simp only [Act.put, List.setIfInBounds_toArray, List.set_cons_zero, List.set_cons_succ]); (refine wpAnyH_take (i := 11) (v := ?_) rfl (by kernel_rfl) (by kernel_rfl) (by kernel_rfl) (fun _ _ _ h => h) (Or.inl ⟨by rfl, ?_⟩) (by assumption) ?_); rotate_left 1; (focus (intro w hSw; (try dsimp only at hSw); go_simp; (try with_reducible rfl))); (try simp only [Act.put, List.setIfInBounds_toArray, List.set_cons_zero, List.set_cons_succ]); (refine wpAnyH_take (i := 12) (v := ?_) rfl (by kernel_rfl) (by kernel_rfl) (by kernel_rfl) (fun _ _ _ h => h) (Or.inl ⟨by rfl, ?_⟩) (by assumption) ?_); rotate_left 1; (focus (intro w hSw; (try dsimp only at hSw); go_simp; (try with_reducible rfl))); (try simp only [Act.put, List.setIfInBounds_toArray, List.set_cons_zero, List.set_cons_succ])
        have z0 : w.heap.size < wr.heap.size := hz0
        refine wpAnyH_ready (rs := [2, 15]) (by kernel_rfl) (by simp) ?_; refine AllReadyH.cons rfl (fun K hK => ?_) (AllReadyH.cons rfl (fun K hK => ?_) (AllReadyH.nil))
        rotate_left
        focus
          have c0_0 := N0.out.box.c0
          have c1_0 := N0.out.box.c1
          have zz0 : w.heap.size < (wr.drew).heap.size := World.block_lt_of_cell? (wr.drew) _ c0_0
          (try simp only [World.size_alloc, World.size_drew] at zz0)
          go_simp; (try simp only [Act.put, List.setIfInBounds_toArray, List.set_cons_zero, List.set_cons_succ]); (try go_wp2_with fail); refine hK.out _ _ ?_ (fun hHeld => ?_); (focus (((try dsimp only); go_split_ands; (repeat' apply And.intro) <;> first | assumption | exact Ext.cell1 he1 (by assumption) | (simp [*]; done) | (simp [*, go_sem, World.cell?_alloc_past]; done)))); clear hK K; (try simp only [Act.put, List.setIfInBounds_toArray, List.set_cons_zero, List.set_cons_succ])
          have bx0 := own_block (wr.drew) 27 [.slice none 0 0, .slice none 0 0]
          (try simp only [World.size_alloc, World.size_drew] at bx0)
          have BX0 := Lib.hid bx0
          clear bx0
          have Nx0 := Lib.hid (N0.out.step ((Ext.refl (wr.drew)).alloc (.cells #[.slice none 0 0, .slice none 0 0] 27)))
          have c0_1 := Nx0.out.box.c0
          have c1_1 := Nx0.out.box.c1
          have zz1 : w.heap.size < ((wr.drew.alloc (.cells #[.slice none 0 0, .slice none 0 0] 27))).heap.size := World.block_lt_of_cell? ((wr.drew.alloc (.cells #[.slice none 0 0, .slice none 0 0] 27))) _ c0_1
          (try simp only [World.size_alloc, World.size_drew] at zz1)
          refine wpAnyH_ready (rs := [2]) (by kernel_rfl) (by simp) ?_; refine AllReadyH.cons rfl (fun K hK => ?_) AllReadyH.nil; go_simp; skip; (try go_wp2_with fail); refine hK.out _ _ ?_ (fun hHeld => ?_); (focus (((try dsimp only); go_split_ands; (repeat' apply And.intro) <;> first | assumption | exact Ext.cell1 he1 (by assumption) | (simp [*]; done) | (simp [*, go_sem, World.cell?_alloc_past]; done)))); clear hK K; (try simp only [Act.put, List.setIfInBounds_toArray, List.set_cons_zero, List.set_cons_succ])
          have or1 := own_empty ((wr.drew.alloc (.cells #[.slice none 0 0, .slice none 0 0] 27))) (w.heap.size + 1) 42 4 (by (try simp only [World.size_alloc, World.size_drew]); omega)
          (try simp only [World.size_alloc, World.size_drew] at or1)
          have OR1 := Lib.hid or1
          clear or1
          have Nx1 := Lib.hid (Nx0.out.step ((Ext.refl ((wr.drew.alloc (.cells #[.slice none 0 0, .slice none 0 0] 27)))).alloc (.cells #[] 42)))
          have BX1 := Lib.hid (((Ext.refl ((wr.drew.alloc (.cells #[.slice none 0 0, .slice none 0 0] 27)))).alloc (.cells #[] 42)).own BX0.out)
          have c0_2 := Nx1.out.box.c0
          have c1_2 := Nx1.out.box.c1
          have zz2 : w.heap.size < (((wr.drew.alloc (.cells #[.slice none 0 0, .slice none 0 0] 27)).alloc (.cells #[] 42))).heap.size := World.block_lt_of_cell? (((wr.drew.alloc (.cells #[.slice none 0 0, .slice none 0 0] 27)).alloc (.cells #[] 42))) _ c0_2
          (try simp only [World.size_alloc, World.size_drew] at zz2)
          refine wpAnyH_ready (rs := [7]) (by kernel_rfl) (by simp) ?_; refine AllReadyH.cons rfl (fun K hK => ?_) AllReadyH.nil; refine step_app_own rfl (.tmp 24) (.tmp 28) 25 rfl (w.heap.size + 1) 42 i0 (.agg #[.int .i64 0, .int .i64 0, .int .i64 0, .int .i64 0]) 4 32 Try.underlying25 hi0 hz0v hz1 hz2 rfl (by decide) _ 0 [] rfl OR1.out ⟨b, off, none⟩ k d ((bs.take k).flatMap Ban.cs) rfl HL1.out (HS1.out _ Nx1.out.box.ext) (bans_one _) (by unfold maxLen; omega) (by omega) (by (try simp only [World.size_alloc, World.size_drew]); omega) 29 rfl k (Nat.zero_add k) ((bs.take k).flatMap Ban.cs) (List.nil_append _) ?_; intro Ap2 cp2 w7_2 op2 gp2; have Nx2 := Lib.hid (Nx1.out.grow gp2 OR1.out intBan); have BX2 := Lib.hid (BX1.out.kept gp2 (own_types BX1.out OR1.out tabBan)); have OR2 := Lib.hid op2; clear op2 gp2; have k0_2 := Nx2.out.box.c0; have k1_2 := Nx2.out.box.c1; (try simp only [Act.put, List.setIfInBounds_toArray, List.set_cons_zero, List.set_cons_succ]); refine hK.out _ _ ?_ (fun hHeld => ?_); (focus (((try dsimp only); go_split_ands; (repeat' apply And.intro) <;> first | assumption | exact Ext.cell1 he1 (by assumption) | (simp [*]; done) | (simp [*, go_sem, World.cell?_alloc_past]; done)))); clear hK K; (try simp only [Act.put, List.setIfInBounds_toArray, List.set_cons_zero, List.set_cons_succ])
          have c0_3 := Nx2.out.box.c0
          have c1_3 := Nx2.out.box.c1
          have zz3 : w.heap.size < w7_2.heap.size := World.block_lt_of_cell? (w7_2) _ c0_3
          (try simp only [World.size_alloc, World.size_drew] at zz3)
          refine wpAnyH_ready (rs := [13]) (by kernel_rfl) (by simp) ?_; refine AllReadyH.cons rfl (fun K hK => ?_) AllReadyH.nil; refine step_app_own rfl (.tmp 29) (.tmp 34) 25 rfl (w.heap.size + 1) 42 i0 (.agg #[.int .i64 0, .int .i64 0, .int .i64 0, .int .i64 0]) 4 32 Try.underlying25 hi0 hz0v hz1 hz2 rfl (by decide) _ k ((bs.take k).flatMap Ban.cs) rfl OR2.out A2 (m - (k + 1)) (d - (k + 1)) ((bs.drop (k + 1)).flatMap Ban.cs) rfl HL2.out (hsrc.out _ Nx2.out.box.ext) (bans_one _) (by unfold maxLen; omega) (by omega) (by (try simp only [World.size_alloc, World.size_drew]); omega) 35 rfl mm hmb.2.2 ((bs.eraseIdx k).flatMap Ban.cs) HE.out ?_; intro Ap3 cp3 w13_3 op3 gp3; have Nx3 := Lib.hid (Nx2.out.grow gp3 OR2.out intBan); have BX3 := Lib.hid (BX2.out.kept gp3 (own_types BX2.out OR2.out tabBan)); have OR3 := Lib.hid op3; clear op3 gp3; have k0_3 := Nx3.out.box.c0; have k1_3 := Nx3.out.box.c1; (try simp only [Act.put, List.setIfInBounds_toArray, List.set_cons_zero, List.set_cons_succ]); refine hK.out _ _ ?_ (fun hHeld => ?_); (focus (((try dsimp only); go_split_ands; (repeat' apply And.intro) <;> first | assumption | exact Ext.cell1 he1 (by assumption) | (simp [*]; done) | (simp [*, go_sem, World.cell?_alloc_past]; done)))); clear hK K; (try simp only [Act.put, List.setIfInBounds_toArray, List.set_cons_zero, List.set_cons_succ])
          (refine wpAnyH_take (i := 14) (v := ?_) rfl (by kernel_rfl) (by kernel_rfl) (by kernel_rfl) (fun _ _ _ h => h) (Or.inl ⟨by rfl, ?_⟩) (by assumption) ?_); rotate_left 1; (focus (intro w hSw; (try dsimp only at hSw); go_simp; (try with_reducible rfl))); (try simp only [Act.put, List.setIfInBounds_toArray, List.set_cons_zero, List.set_cons_succ])
          obtain ⟨k0, k1, gx⟩ := tab_stored BX3.out (.slice A n c) (.slice (Ap3) mm cp3)
          have NF := Lib.hid (Nx3.out.row gx zz0 intTab BX3.out)
          have ODF := Lib.hid (own_low' (OR3.out.kept gx (own_types OR3.out BX3.out banTab)) (Nat.zero_le _))
          have f0 := NF.out.box.c0
          have f1 := NF.out.box.c1
          refine wpAnyH_ready (rs := [16]) (by kernel_rfl) (by simp) ?_; refine AllReadyH.cons rfl (fun K hK => ?_) AllReadyH.nil; refine step_store rfl 27 (.tmp 7) (.tmp 36) rfl wr.heap.size 0 [.slice A n c, .slice (Ap3) mm cp3] rfl rfl (own_there BX3.out 0 2 (by simp)) sizeTab rfl rfl ?_; (try simp only [Act.put, List.setIfInBounds_toArray, List.set_cons_zero, List.set_cons_succ]); refine hK.out _ _ ?_ (fun hHeld => ?_); (focus (((try dsimp only); go_split_ands; (repeat' apply And.intro) <;> first | assumption | exact Ext.cell1 he1 (by assumption) | (simp [*]; done) | (simp [*, go_sem, World.cell?_alloc_past]; done)))); clear hK K; (try simp only [Act.put, List.setIfInBounds_toArray, List.set_cons_zero, List.set_cons_succ])
          refine wpAnyH_done (by kernel_rfl) ?_ _
          clear f0 f1 gx c0_0 c1_0 c0_1 c1_1 c0_2 c1_2 k0_2 k1_2 c0_3 c1_3 k0_3 k1_3
          have K0 := Lib.hid k0
          have K1 := Lib.hid k1
          clear k0 k1
          obtain ⟨W5, hW5⟩ : ∃ W5, w13_3.setCells wr.heap.size 0 [.slice A n c, .slice (Ap3) mm cp3] = W5 := ⟨_, rfl⟩
          rw [hW5] at K0 K1 NF ODF
          rw [hW5]
          clear hW5
          obtain ⟨xb, hxb⟩ : ∃ xb, wr.heap.size = xb := ⟨_, rfl⟩
          have hxb2 : w.heap.size < xb := by rw [← hxb]; exact zz0
          rw [hxb] at K0 K1
          rw [hxb]
          clear hxb
          obtain ⟨A9, c9, hA9, hc9⟩ : ∃ A9 c9, (Ap3) = A9 ∧ cp3 = c9 := ⟨_, _, rfl, rfl⟩
          rw [hA9, hc9] at K1 ODF
          rw [hA9, hc9]
          clear hA9 hc9
        rotate_left
        focus
          have c0_5 := N0.out.box.c0
          have c1_5 := N0.out.box.c1
          have zz5 : w.heap.size < (wr.drew).heap.size := World.block_lt_of_cell? (wr.drew) _ c0_5
          (try simp only [World.size_alloc, World.size_drew] at zz5)
          go_simp; (try simp only [Act.put, List.setIfInBounds_toArray, List.set_cons_zero, List.set_cons_succ]); (try go_wp2_with fail); refine hK.out _ _ ?_ (fun hHeld => ?_); (focus (((try dsimp only); go_split_ands; (repeat' apply And.intro) <;> first | assumption | exact Ext.cell1 he1 (by assumption) | (simp [*]; done) | (simp [*, go_sem, World.cell?_alloc_past]; done)))); clear hK K; (try simp only [Act.put, List.setIfInBounds_toArray, List.set_cons_zero, List.set_cons_succ])
          have or5 := own_empty (wr.drew) (w.heap.size + 1) 42 4 (by (try simp only [World.size_alloc, World.size_drew]); omega)
          (try simp only [World.size_alloc, World.size_drew] at or5)
          have OR5 := Lib.hid or5
          clear or5
          have Nx5 := Lib.hid (N0.out.step ((Ext.refl (wr.drew)).alloc (.cells #[] 42)))
          refine wpAnyH_ready (rs := [7, 15]) (by kernel_rfl) (by simp) ?_; refine AllReadyH.cons rfl (fun K hK => ?_) (AllReadyH.cons rfl (fun K hK => ?_) (AllReadyH.nil))
          rotate_left
          focus
            have c0_6 := Nx5.out.box.c0
            have c1_6 := Nx5.out.box.c1
            have zz6 : w.heap.size < ((wr.drew.alloc (.cells #[] 42))).heap.size := World.block_lt_of_cell? ((wr.drew.alloc (.cells #[] 42))) _ c0_6
            (try simp only [World.size_alloc, World.size_drew] at zz6)
            go_simp; (try simp only [Act.put, List.setIfInBounds_toArray, List.set_cons_zero, List.set_cons_succ]); (try go_wp2_with fail); refine hK.out _ _ ?_ (fun hHeld => ?_); (focus (((try dsimp only); go_split_ands; (repeat' apply And.intro) <;> first | assumption | exact Ext.cell1 he1 (by assumption) | (simp [*]; done) | (simp [*, go_sem, World.cell?_alloc_past]; done)))); clear hK K; (try simp only [Act.put, List.setIfInBounds_toArray, List.set_cons_zero, List.set_cons_succ])
            have bx6 := own_block ((wr.drew.alloc (.cells #[] 42))) 27 [.slice none 0 0, .slice none 0 0]
            (try simp only [World.size_alloc, World.size_drew] at bx6)
            have BX6 := Lib.hid bx6
            clear bx6
            have Nx6 := Lib.hid (Nx5.out.step ((Ext.refl ((wr.drew.alloc (.cells #[] 42)))).alloc (.cells #[.slice none 0 0, .slice none 0 0] 27)))
            have OA6 := Lib.hid (((Ext.refl ((wr.drew.alloc (.cells #[] 42)))).alloc (.cells #[.slice none 0 0, .slice none 0 0] 27)).own OR5.out)
            have c0_7 := Nx6.out.box.c0
            have c1_7 := Nx6.out.box.c1
            have zz7 : w.heap.size < (((wr.drew.alloc (.cells #[] 42)).alloc (.cells #[.slice none 0 0, .slice none 0 0] 27))).heap.size := World.block_lt_of_cell? (((wr.drew.alloc (.cells #[] 42)).alloc (.cells #[.slice none 0 0, .slice none 0 0] 27))) _ c0_7
            (try simp only [World.size_alloc, World.size_drew] at zz7)
            refine wpAnyH_ready (rs := [7]) (by kernel_rfl) (by simp) ?_; refine AllReadyH.cons rfl (fun K hK => ?_) AllReadyH.nil; refine step_app_own rfl (.tmp 24) (.tmp 28) 25 rfl (w.heap.size + 1) 42 i0 (.agg #[.int .i64 0, .int .i64 0, .int .i64 0, .int .i64 0]) 4 32 Try.underlying25 hi0 hz0v hz1 hz2 rfl (by decide) _ 0 [] rfl OA6.out ⟨b, off, none⟩ k d ((bs.take k).flatMap Ban.cs) rfl HL1.out (HS1.out _ Nx6.out.box.ext) (bans_one _) (by unfold maxLen; omega) (by omega) (by (try simp only [World.size_alloc, World.size_drew]); omega) 29 rfl k (Nat.zero_add k) ((bs.take k).flatMap Ban.cs) (List.nil_append _) ?_; intro Ap7 cp7 w7_7 op7 gp7; have Nx7 := Lib.hid (Nx6.out.grow gp7 OA6.out intBan); have BX7 := Lib.hid (BX6.out.kept gp7 (own_types BX6.out OA6.out tabBan)); have OR7 := Lib.hid op7; clear op7 gp7; have k0_7 := Nx7.out.box.c0; have k1_7 := Nx7.out.box.c1; (try simp only [Act.put, List.setIfInBounds_toArray, List.set_cons_zero, List.set_cons_succ]); refine hK.out _ _ ?_ (fun hHeld => ?_); (focus (((try dsimp only); go_split_ands; (repeat' apply And.intro) <;> first | assumption | exact Ext.cell1 he1 (by assumption) | (simp [*]; done) | (simp [*, go_sem, World.cell?_alloc_past]; done)))); clear hK K; (try simp only [Act.put, List.setIfInBounds_toArray, List.set_cons_zero, List.set_cons_succ])
            have c0_8 := Nx7.out.box.c0
            have c1_8 := Nx7.out.box.c1
            have zz8 : w.heap.size < w7_7.heap.size := World.block_lt_of_cell? (w7_7) _ c0_8
            (try simp only [World.size_alloc, World.size_drew] at zz8)
            refine wpAnyH_ready (rs := [13]) (by kernel_rfl) (by simp) ?_; refine AllReadyH.cons rfl (fun K hK => ?_) AllReadyH.nil; refine step_app_own rfl (.tmp 29) (.tmp 34) 25 rfl (w.heap.size + 1) 42 i0 (.agg #[.int .i64 0, .int .i64 0, .int .i64 0, .int .i64 0]) 4 32 Try.underlying25 hi0 hz0v hz1 hz2 rfl (by decide) _ k ((bs.take k).flatMap Ban.cs) rfl OR7.out A2 (m - (k + 1)) (d - (k + 1)) ((bs.drop (k + 1)).flatMap Ban.cs) rfl HL2.out (hsrc.out _ Nx7.out.box.ext) (bans_one _) (by unfold maxLen; omega) (by omega) (by (try simp only [World.size_alloc, World.size_drew]); omega) 35 rfl mm hmb.2.2 ((bs.eraseIdx k).flatMap Ban.cs) HE.out ?_; intro Ap8 cp8 w13_8 op8 gp8; have Nx8 := Lib.hid (Nx7.out.grow gp8 OR7.out intBan); have BX8 := Lib.hid (BX7.out.kept gp8 (own_types BX7.out OR7.out tabBan)); have OR8 := Lib.hid op8; clear op8 gp8; have k0_8 := Nx8.out.box.c0; have k1_8 := Nx8.out.box.c1; (try simp only [Act.put, List.setIfInBounds_toArray, List.set_cons_zero, List.set_cons_succ]); refine hK.out _ _ ?_ (fun hHeld => ?_); (focus (((try dsimp only); go_split_ands; (repeat' apply And.intro) <;> first | assumption | exact Ext.cell1 he1 (by assumption) | (simp [*]; done) | (simp [*, go_sem, World.cell?_alloc_past]; done)))); clear hK K; (try simp only [Act.put, List.setIfInBounds_toArray, List.set_cons_zero, List.set_cons_succ])
            (refine wpAnyH_take (i := 14) (v := ?_) rfl (by kernel_rfl) (by kernel_rfl) (by kernel_rfl) (fun _ _ _ h => h) (Or.inl ⟨by rfl, ?_⟩) (by assumption) ?_); rotate_left 1; (focus (intro w hSw; (try dsimp only at hSw); go_simp; (try with_reducible rfl))); (try simp only [Act.put, List.setIfInBounds_toArray, List.set_cons_zero, List.set_cons_succ])
            obtain ⟨k0, k1, gx⟩ := tab_stored BX8.out (.slice A n c) (.slice (Ap8) mm cp8)
            have NF := Lib.hid (Nx8.out.row gx zz6 intTab BX8.out)
            have ODF := Lib.hid (own_low' (OR8.out.kept gx (own_types OR8.out BX8.out banTab)) (Nat.zero_le _))
            have f0 := NF.out.box.c0
            have f1 := NF.out.box.c1
            refine wpAnyH_ready (rs := [16]) (by kernel_rfl) (by simp) ?_; refine AllReadyH.cons rfl (fun K hK => ?_) AllReadyH.nil; refine step_store rfl 27 (.tmp 7) (.tmp 36) rfl (wr.heap.size + 1) 0 [.slice A n c, .slice (Ap8) mm cp8] rfl rfl (own_there BX8.out 0 2 (by simp)) sizeTab rfl rfl ?_; (try simp only [Act.put, List.setIfInBounds_toArray, List.set_cons_zero, List.set_cons_succ]); refine hK.out _ _ ?_ (fun hHeld => ?_); (focus (((try dsimp only); go_split_ands; (repeat' apply And.intro) <;> first | assumption | exact Ext.cell1 he1 (by assumption) | (simp [*]; done) | (simp [*, go_sem, World.cell?_alloc_past]; done)))); clear hK K; (try simp only [Act.put, List.setIfInBounds_toArray, List.set_cons_zero, List.set_cons_succ])
            refine wpAnyH_done (by kernel_rfl) ?_ _
            clear f0 f1 gx c0_5 c1_5 c0_6 c1_6 c0_7 c1_7 k0_7 k1_7 c0_8 c1_8 k0_8 k1_8
            have K0 := Lib.hid k0
            have K1 := Lib.hid k1
            clear k0 k1
            obtain ⟨W5, hW5⟩ : ∃ W5, w13_8.setCells (wr.heap.size + 1) 0 [.slice A n c, .slice (Ap8) mm cp8] = W5 := ⟨_, rfl⟩
            rw [hW5] at K0 K1 NF ODF
            rw [hW5]
            clear hW5
            obtain ⟨xb, hxb⟩ : ∃ xb, (wr.heap.size + 1) = xb := ⟨_, rfl⟩
            have hxb2 : w.heap.size < xb := by rw [← hxb]; exact zz6
            rw [hxb] at K0 K1
            rw [hxb]
            clear hxb
            obtain ⟨A9, c9, hA9, hc9⟩ : ∃ A9 c9, (Ap8) = A9 ∧ cp8 = c9 := ⟨_, _, rfl, rfl⟩
            rw [hA9, hc9] at K1 ODF
            rw [hA9, hc9]
            clear hA9 hc9
          rotate_left
          focus
            have c0_10 := Nx5.out.box.c0
            have c1_10 := Nx5.out.box.c1
            have zz10 : w.heap.size < ((wr.drew.alloc (.cells #[] 42))).heap.size := World.block_lt_of_cell? ((wr.drew.alloc (.cells #[] 42))) _ c0_10
            (try simp only [World.size_alloc, World.size_drew] at zz10)
            refine step_app_own rfl (.tmp 24) (.tmp 28) 25 rfl (w.heap.size + 1) 42 i0 (.agg #[.int .i64 0, .int .i64 0, .int .i64 0, .int .i64 0]) 4 32 Try.underlying25 hi0 hz0v hz1 hz2 rfl (by decide) _ 0 [] rfl OR5.out ⟨b, off, none⟩ k d ((bs.take k).flatMap Ban.cs) rfl HL1.out (HS1.out _ Nx5.out.box.ext) (bans_one _) (by unfold maxLen; omega) (by omega) (by (try simp only [World.size_alloc, World.size_drew]); omega) 29 rfl k (Nat.zero_add k) ((bs.take k).flatMap Ban.cs) (List.nil_append _) ?_; intro Ap10 cp10 w7_10 op10 gp10; have Nx10 := Lib.hid (Nx5.out.grow gp10 OR5.out intBan); have OR10 := Lib.hid op10; clear op10 gp10; have k0_10 := Nx10.out.box.c0; have k1_10 := Nx10.out.box.c1; (try simp only [Act.put, List.setIfInBounds_toArray, List.set_cons_zero, List.set_cons_succ]); refine hK.out _ _ ?_ (fun hHeld => ?_); (focus (((try dsimp only); go_split_ands; (repeat' apply And.intro) <;> first | assumption | exact Ext.cell1 he1 (by assumption) | (simp [*]; done) | (simp [*, go_sem, World.cell?_alloc_past]; done)))); clear hK K; (try simp only [Act.put, List.setIfInBounds_toArray, List.set_cons_zero, List.set_cons_succ])
            refine wpAnyH_ready (rs := [13, 15]) (by kernel_rfl) (by simp) ?_; refine AllReadyH.cons rfl (fun K hK => ?_) (AllReadyH.cons rfl (fun K hK => ?_) (AllReadyH.nil))
            rotate_left
            focus
              have c0_11 := Nx10.out.box.c0
              have c1_11 := Nx10.out.box.c1
              have zz11 : w.heap.size < w7_10.heap.size := World.block_lt_of_cell? (w7_10) _ c0_11
              (try simp only [World.size_alloc, World.size_drew] at zz11)
              go_simp; (try simp only [Act.put, List.setIfInBounds_toArray, List.set_cons_zero, List.set_cons_succ]); (try go_wp2_with fail); refine hK.out _ _ ?_ (fun hHeld => ?_); (focus (((try dsimp only); go_split_ands; (repeat' apply And.intro) <;> first | assumption | exact Ext.cell1 he1 (by assumption) | (simp [*]; done) | (simp [*, go_sem, World.cell?_alloc_past]; done)))); clear hK K; (try simp only [Act.put, List.setIfInBounds_toArray, List.set_cons_zero, List.set_cons_succ])
              have bx11 := own_block (w7_10) 27 [.slice none 0 0, .slice none 0 0]
              (try simp only [World.size_alloc, World.size_drew] at bx11)
              have BX11 := Lib.hid bx11
              clear bx11
              have Nx11 := Lib.hid (Nx10.out.step ((Ext.refl (w7_10)).alloc (.cells #[.slice none 0 0, .slice none 0 0] 27)))
              have OA11 := Lib.hid (((Ext.refl (w7_10)).alloc (.cells #[.slice none 0 0, .slice none 0 0] 27)).own OR10.out)
              have c0_12 := Nx11.out.box.c0
              have c1_12 := Nx11.out.box.c1
              have zz12 : w.heap.size < ((w7_10.alloc (.cells #[.slice none 0 0, .slice none 0 0] 27))).heap.size := World.block_lt_of_cell? ((w7_10.alloc (.cells #[.slice none 0 0, .slice none 0 0] 27))) _ c0_12
              (try simp only [World.size_alloc, World.size_drew] at zz12)
              refine wpAnyH_ready (rs := [13]) (by kernel_rfl) (by simp) ?_; refine AllReadyH.cons rfl (fun K hK => ?_) AllReadyH.nil; refine step_app_own rfl (.tmp 29) (.tmp 34) 25 rfl (w.heap.size + 1) 42 i0 (.agg #[.int .i64 0, .int .i64 0, .int .i64 0, .int .i64 0]) 4 32 Try.underlying25 hi0 hz0v hz1 hz2 rfl (by decide) _ k ((bs.take k).flatMap Ban.cs) rfl OA11.out A2 (m - (k + 1)) (d - (k + 1)) ((bs.drop (k + 1)).flatMap Ban.cs) rfl HL2.out (hsrc.out _ Nx11.out.box.ext) (bans_one _) (by unfold maxLen; omega) (by omega) (by (try simp only [World.size_alloc, World.size_drew]); omega) 35 rfl mm hmb.2.2 ((bs.eraseIdx k).flatMap Ban.cs) HE.out ?_; intro Ap12 cp12 w13_12 op12 gp12; have Nx12 := Lib.hid (Nx11.out.grow gp12 OA11.out intBan); have BX12 := Lib.hid (BX11.out.kept gp12 (own_types BX11.out OA11.out tabBan)); have OR12 := Lib.hid op12; clear op12 gp12; have k0_12 := Nx12.out.box.c0; have k1_12 := Nx12.out.box.c1; (try simp only [Act.put, List.setIfInBounds_toArray, List.set_cons_zero, List.set_cons_succ]); refine hK.out _ _ ?_ (fun hHeld => ?_); (focus (((try dsimp only); go_split_ands; (repeat' apply And.intro) <;> first | assumption | exact Ext.cell1 he1 (by assumption) | (simp [*]; done) | (simp [*, go_sem, World.cell?_alloc_past]; done)))); clear hK K; (try simp only [Act.put, List.setIfInBounds_toArray, List.set_cons_zero, List.set_cons_succ])
              (refine wpAnyH_take (i := 14) (v := ?_) rfl (by kernel_rfl) (by kernel_rfl) (by kernel_rfl) (fun _ _ _ h => h) (Or.inl ⟨by rfl, ?_⟩) (by assumption) ?_); rotate_left 1; (focus (intro w hSw; (try dsimp only at hSw); go_simp; (try with_reducible rfl))); (try simp only [Act.put, List.setIfInBounds_toArray, List.set_cons_zero, List.set_cons_succ])
              obtain ⟨k0, k1, gx⟩ := tab_stored BX12.out (.slice A n c) (.slice (Ap12) mm cp12)
              have NF := Lib.hid (Nx12.out.row gx zz11 intTab BX12.out)
              have ODF := Lib.hid (own_low' (OR12.out.kept gx (own_types OR12.out BX12.out banTab)) (Nat.zero_le _))
              have f0 := NF.out.box.c0
              have f1 := NF.out.box.c1
              refine wpAnyH_ready (rs := [16]) (by kernel_rfl) (by simp) ?_; refine AllReadyH.cons rfl (fun K hK => ?_) AllReadyH.nil; refine step_store rfl 27 (.tmp 7) (.tmp 36) rfl w7_10.heap.size 0 [.slice A n c, .slice (Ap12) mm cp12] rfl rfl (own_there BX12.out 0 2 (by simp)) sizeTab rfl rfl ?_; (try simp only [Act.put, List.setIfInBounds_toArray, List.set_cons_zero, List.set_cons_succ]); refine hK.out _ _ ?_ (fun hHeld => ?_); (focus (((try dsimp only); go_split_ands; (repeat' apply And.intro) <;> first | assumption | exact Ext.cell1 he1 (by assumption) | (simp [*]; done) | (simp [*, go_sem, World.cell?_alloc_past]; done)))); clear hK K; (try simp only [Act.put, List.setIfInBounds_toArray, List.set_cons_zero, List.set_cons_succ])
              refine wpAnyH_done (by kernel_rfl) ?_ _
              clear f0 f1 gx c0_5 c1_5 c0_10 c1_10 k0_10 k1_10 c0_11 c1_11 c0_12 c1_12 k0_12 k1_12
              have K0 := Lib.hid k0
              have K1 := Lib.hid k1
              clear k0 k1
              obtain ⟨W5, hW5⟩ : ∃ W5, w13_12.setCells w7_10.heap.size 0 [.slice A n c, .slice (Ap12) mm cp12] = W5 := ⟨_, rfl⟩
              rw [hW5] at K0 K1 NF ODF
              rw [hW5]
              clear hW5
              obtain ⟨xb, hxb⟩ : ∃ xb, w7_10.heap.size = xb := ⟨_, rfl⟩
              have hxb2 : w.heap.size < xb := by rw [← hxb]; exact zz11
              rw [hxb] at K0 K1
              rw [hxb]
              clear hxb
              obtain ⟨A9, c9, hA9, hc9⟩ : ∃ A9 c9, (Ap12) = A9 ∧ cp12 = c9 := ⟨_, _, rfl, rfl⟩
              rw [hA9, hc9] at K1 ODF
              rw [hA9, hc9]
              clear hA9 hc9
            rotate_left
            focus
              have c0_14 := Nx10.out.box.c0
              have c1_14 := Nx10.out.box.c1
              have zz14 : w.heap.size < w7_10.heap.size := World.block_lt_of_cell? (w7_10) _ c0_14
              (try simp only [World.size_alloc, World.size_drew] at zz14)
              refine step_app_own rfl (.tmp 29) (.tmp 34) 25 rfl (w.heap.size + 1) 42 i0 (.agg #[.int .i64 0, .int .i64 0, .int .i64 0, .int .i64 0]) 4 32 Try.underlying25 hi0 hz0v hz1 hz2 rfl (by decide) _ k ((bs.take k).flatMap Ban.cs) rfl OR10.out A2 (m - (k + 1)) (d - (k + 1)) ((bs.drop (k + 1)).flatMap Ban.cs) rfl HL2.out (hsrc.out _ Nx10.out.box.ext) (bans_one _) (by unfold maxLen; omega) (by omega) (by (try simp only [World.size_alloc, World.size_drew]); omega) 35 rfl mm hmb.2.2 ((bs.eraseIdx k).flatMap Ban.cs) HE.out ?_; intro Ap14 cp14 w13_14 op14 gp14; have Nx14 := Lib.hid (Nx10.out.grow gp14 OR10.out intBan); have OR14 := Lib.hid op14; clear op14 gp14; have k0_14 := Nx14.out.box.c0; have k1_14 := Nx14.out.box.c1; (try simp only [Act.put, List.setIfInBounds_toArray, List.set_cons_zero, List.set_cons_succ]); refine hK.out _ _ ?_ (fun hHeld => ?_); (focus (((try dsimp only); go_split_ands; (repeat' apply And.intro) <;> first | assumption | exact Ext.cell1 he1 (by assumption) | (simp [*]; done) | (simp [*, go_sem, World.cell?_alloc_past]; done)))); clear hK K; (try simp only [Act.put, List.setIfInBounds_toArray, List.set_cons_zero, List.set_cons_succ])
              (refine wpAnyH_take (i := 14) (v := ?_) rfl (by kernel_rfl) (by kernel_rfl) (by kernel_rfl) (fun _ _ _ h => h) (Or.inl ⟨by rfl, ?_⟩) (by assumption) ?_); rotate_left 1; (focus (intro w hSw; (try dsimp only at hSw); go_simp; (try with_reducible rfl))); (try simp only [Act.put, List.setIfInBounds_toArray, List.set_cons_zero, List.set_cons_succ])
              have c0_15 := Nx14.out.box.c0
              have c1_15 := Nx14.out.box.c1
              have zz15 : w.heap.size < w13_14.heap.size := World.block_lt_of_cell? (w13_14) _ c0_15
              (try simp only [World.size_alloc, World.size_drew] at zz15)
              refine wpAnyH_ready (rs := [15]) (by kernel_rfl) (by simp) ?_; refine AllReadyH.cons rfl (fun K hK => ?_) AllReadyH.nil; go_simp; skip; (try go_wp2_with fail); refine hK.out _ _ ?_ (fun hHeld => ?_); (focus (((try dsimp only); go_split_ands; (repeat' apply And.intro) <;> first | assumption | exact Ext.cell1 he1 (by assumption) | (simp [*]; done) | (simp [*, go_sem, World.cell?_alloc_past]; done)))); clear hK K; (try simp only [Act.put, List.setIfInBounds_toArray, List.set_cons_zero, List.set_cons_succ])
              have bx15 := own_block (w13_14) 27 [.slice none 0 0, .slice none 0 0]
              (try simp only [World.size_alloc, World.size_drew] at bx15)
              have BX15 := Lib.hid bx15
              clear bx15
              have Nx15 := Lib.hid (Nx14.out.step ((Ext.refl (w13_14)).alloc (.cells #[.slice none 0 0, .slice none 0 0] 27)))
              have OA15 := Lib.hid (((Ext.refl (w13_14)).alloc (.cells #[.slice none 0 0, .slice none 0 0] 27)).own OR14.out)
              obtain ⟨k0, k1, gx⟩ := tab_stored BX15.out (.slice A n c) (.slice (Ap14) mm cp14)
              have NF := Lib.hid (Nx15.out.row gx zz15 intTab BX15.out)
              have ODF := Lib.hid (own_low' (OA15.out.kept gx (own_types OA15.out BX15.out banTab)) (Nat.zero_le _))
              have f0 := NF.out.box.c0
              have f1 := NF.out.box.c1
              refine wpAnyH_ready (rs := [16]) (by kernel_rfl) (by simp) ?_; refine AllReadyH.cons rfl (fun K hK => ?_) AllReadyH.nil; refine step_store rfl 27 (.tmp 7) (.tmp 36) rfl w13_14.heap.size 0 [.slice A n c, .slice (Ap14) mm cp14] rfl rfl (own_there BX15.out 0 2 (by simp)) sizeTab rfl rfl ?_; (try simp only [Act.put, List.setIfInBounds_toArray, List.set_cons_zero, List.set_cons_succ]); refine hK.out _ _ ?_ (fun hHeld => ?_); (focus (((try dsimp only); go_split_ands; (repeat' apply And.intro) <;> first | assumption | exact Ext.cell1 he1 (by assumption) | (simp [*]; done) | (simp [*, go_sem, World.cell?_alloc_past]; done)))); clear hK K; (try simp only [Act.put, List.setIfInBounds_toArray, List.set_cons_zero, List.set_cons_succ])
              refine wpAnyH_done (by kernel_rfl) ?_ _
              clear f0 f1 gx c0_5 c1_5 c0_10 c1_10 k0_10 k1_10 c0_14 c1_14 k0_14 k1_14 c0_15 c1_15
              have K0 := Lib.hid k0
              have K1 := Lib.hid k1
              clear k0 k1
              obtain ⟨W5, hW5⟩ : ∃ W5, (w13_14.alloc (.cells #[.slice none 0 0, .slice none 0 0] 27)).setCells w13_14.heap.size 0 [.slice A n c, .slice (Ap14) mm cp14] = W5 := ⟨_, rfl⟩
              rw [hW5] at K0 K1 NF ODF
              rw [hW5]
              clear hW5
              obtain ⟨xb, hxb⟩ : ∃ xb, w13_14.heap.size = xb := ⟨_, rfl⟩
              have hxb2 : w.heap.size < xb := by rw [← hxb]; exact zz15
              rw [hxb] at K0 K1
              rw [hxb]
              clear hxb
              obtain ⟨A9, c9, hA9, hc9⟩ : ∃ A9 c9, (Ap14) = A9 ∧ cp14 = c9 := ⟨_, _, rfl, rfl⟩
              rw [hA9, hc9] at K1 ODF
              rw [hA9, hc9]
              clear hA9 hc9
        all_goals
          have TF := Lib.hid (show TabL W5 A n A9 mm ss (bs.eraseIdx k) from ⟨h.sl, h.sm, h.sw, h.sr.ext NF.out.box.ext, ⟨by rw [List.length_eraseIdx_of_lt (by rw [HB.out]; exact hlt), HB.out, HMM.out]; rfl, by omega, fun x hx => h.bl.wf x (List.mem_of_mem_eraseIdx hx), Rd.own ODF.out⟩⟩)
          have KC := Lib.hid (l6With_any A n c A9 mm c9 ss (bs.eraseIdx k) (-1) 0 W5 TF.out HT.out.1 HT.out.2.1 (fun x hx => HT.out.2.2 x (List.mem_of_mem_eraseIdx hx)) (by omega))
          have HPK := Lib.hid (HP.out k)
          obtain ⟨q2, hq2⟩ : ∃ q2, (frees ss (bs.eraseIdx k)).length = q2 := ⟨_, rfl⟩
          rw [with_all, hq2] at KC
          rw [hq2] at HPK
          have k0 := K0.out
          have k1 := K1.out
          have hxz : xb < W5.heap.size := World.block_lt_of_cell? W5 _ k0
          clear K0 K1 ODF TF hq2
          cases hd : decide (q2 = q)
          · have hs := Lib.hid (idxs_no (HPK.out.trans hd))
            have hd1 : decide ((q2 : Int) = q) = false := by
              have : ¬ q2 = q := by simpa using hd
              simp; omega
            have hd2 : ((q2 : Int) == q) = false := by
              have : ¬ q2 = q := by simpa using hd
              simp; omega
            clear hd
            go_wp2_with (go_at_call 26; refine KC.out.mono ?_; rintro e wg ⟨rfl, hg⟩)
            have NG := NF.out.step hg
            go_roundw
            case rel => exact ⟨k + 1, O, p, pc, L, by omega, by go_num, rfl, by rw [hs.out]; exact HLL.out, NG⟩
            case measure => simp [intOf]; omega
          · have hs := Lib.hid (idxs_more' (HPK.out.trans hd))
            obtain rfl : q2 = q := by simpa using hd
            clear hd
            go_wp2_with (first | (go_at_call 26; refine KC.out.mono ?_; rintro e wg ⟨rfl, hg⟩; have NG := Lib.hid (NF.out.step hg); have hwg : w.heap.size < wg.heap.size := World.block_lt_of_cell? wg _ NG.out.box.c0) | (at_builtin; refine app_int rfl (.tmp 41) (.tmp 43) rfl (w.heap.size + 1) p pc wg.heap.size O L (k : Int) rfl rfl (NG.out.out.alloc _) (new_cell _ _ _ 0 _ rfl) (by omega) (by simp only [World.size_alloc]; omega) ?_; intro O' oc2 w' hown' hgrow hoff'))
            go_roundw
            case rel => exact ⟨k + 1, O', p + 1, oc2, L ++ [(k : Int)], by omega, by go_num, rfl, by rw [hs.out, HLL.out], ⟨(NG.out.box.step ((Ext.refl _).alloc _)).grow (NG.out.out.alloc _) hgrow, hown'⟩⟩
            case measure => simp [intOf]; omega
      · obtain rfl : k = m := by omega
        go_wp2
        go_ret2
        exact ⟨O, p, pc, rfl, by rw [HB.out, ← HLL.out]; exact own_low' HEK.out.out (by omega), HEK.out.box.ext⟩
end Go.Proofs.Ytekggbmpogmlcaa
