/- NeedlessBans: the program's and the reference's entries. -/
import Derived.Test.YtekggbmpogmlcaaBanD
import Derived.Deep.RegionHeld3
namespace Go.Proofs.Ytekggbmpogmlcaa
open Go.RowKit
set_option linter.unusedVariables false
set_option linter.unusedSimpArgs false
attribute [local go_sem] ExtOf.cell

/-- Without ban i just as many kinds are compatible. -/
def needP (ss : List Int) (bs : List Ban) (i : Nat) : Bool := decide ((frees ss (bs.eraseIdx i)).length = (frees ss bs).length)
def needR (ss : List Int) (bs : List Ban) : List Int := if TabOk ss bs then idxs (needP ss bs) bs.length else []
theorem needR_yes {ss : List Int} {bs : List Ban} (h : TabOk ss bs = true) : needR ss bs = idxs (needP ss bs) bs.length := by unfold needR; rw [if_pos h]
theorem needR_no {ss : List Int} {bs : List Ban} (h : TabOk ss bs = false) : needR ss bs = [] := by unfold needR; rw [h]; rfl
theorem needR_len (ss : List Int) (bs : List Ban) : (needR ss bs).length ≤ 10000 := by
  cases h : TabOk ss bs
  · rw [needR_no h]; exact Nat.zero_le _
  · obtain ⟨_, t3, _⟩ := TabOk_all h
    rw [needR_yes h]; have := idxs_len (needP ss bs) bs.length; omega
def NeedPost (L : List Int) (ok : Bool) (w : World) : Ending → World → Prop := RowPost 3 1 (ints L) ok w
theorem idxs_more' {p : Nat → Bool} {k : Nat} (h : p k = true) : idxs p (k + 1) = idxs p k ++ [(k : Int)] := by
  simp [idxs, List.range_succ, List.filter_append, h]
/-- What the round keeps: the table's box, the list so far. -/
structure NSt (w : World) (u0 u1 : Value) (O : Option Addr) (p pc : Nat) (L : List Int) (W : World) : Prop where
  box : Box2 w u0 u1 W
  out : W.ownsRow (w.heap.size + 1) 3 1 (.slice O p pc) p (ints L)
theorem NSt.step {w W W' : World} {u0 u1 : Value} {O : Option Addr} {p pc : Nat} {L : List Int} (h : NSt w u0 u1 O p pc L W) (he : Ext W W') : NSt w u0 u1 O p pc L W' := ⟨h.box.step he, he.own h.out⟩
theorem NSt.row {w W W' : World} {u0 u1 : Value} {O : Option Addr} {p pc : Nat} {L : List Int} (h : NSt w u0 u1 O p pc L W) {g b T s q qc : Nat} {cs : List Value} (hg : W.grownBy W' (some g)) (hlt : w.heap.size < g) (hT : (3 : Nat) ≠ T) (ho : W.ownsRow b T s (.slice (some ⟨g, 0, none⟩) q qc) q cs) : NSt w u0 u1 O p pc L W' :=
  ⟨⟨h.box.ext.row hg (by omega), grown_cell (A := some ⟨g, 0, none⟩) (m := 0) (c := 0) hg (Off.ne (by omega)) h.box.c0, grown_cell (A := some ⟨g, 0, none⟩) (m := 0) (c := 0) hg (Off.ne (by omega)) h.box.c1⟩, h.out.kept hg (own_types h.out ho hT)⟩
theorem intBan : (3 : Nat) ≠ 42 := by decide
theorem intTab : (3 : Nat) ≠ 27 := by decide
theorem banTab : (42 : Nat) ≠ 27 := by decide
theorem tabBan : (27 : Nat) ≠ 42 := by decide
theorem step_store {P : Program} {ops : Array Oper} {o : Oper} {a : Act} {w : World} {K : Act → World → Prop} {Q : Exit → Act → World → Prop} {E : Prop}
    (hg : o.guard = none) (ty : TypeId) (x y : Operand) (hop : o.op = .store ty x y) (b o' : Nat) (vs : List Value) (hx : a.eval x = .pointer (some ⟨b, o', none⟩)) (hy : a.eval y = .agg vs.toArray)
    (ht : w.there b o' vs.length) (hi : (P.info? ty).map (·.size) = some vs.length) (h1 : vs.all (·.oneCell') = true)
    (hd : o.dst = none) (hK : K a (w.setCells b o' vs)) :
    if Region.wanted o (yielded ops a.tmps) = true then Oper.wp P o a w K Q else E := by
  have hw : Region.wanted o (yielded ops a.tmps) = true := by simp [Region.wanted, hg]
  rw [if_pos hw]
  exact wp_store_mid ty x y hop b o' vs.toArray hx hy (by simpa using ht) (by simpa using hi) (by simpa using h1) (by rw [hd]; simpa [Act.put] using hK)
theorem sizeTab : (Try.prog.info? 27).map (·.size) = some 2 := by kernel_rfl
theorem tab_stored {W : World} {b x : Nat} {cs : List Value} (h : W.ownsRow b 27 2 (.slice (some ⟨x, 0, none⟩) 1 1) 1 cs) (u v : Value) : (W.setCells x 0 [u, v]).cell? ⟨x, 0, none⟩ = some u ∧ (W.setCells x 0 [u, v]).cell? ⟨x, 1, none⟩ = some v ∧ W.grownBy (W.setCells x 0 [u, v]) (some x) := by
  obtain ⟨h1, h2⟩ := own_setCells [u, v] 0 W _ h
  have hl : cs.length = 2 := h.1
  obtain ⟨a, b', rfl⟩ : ∃ a b', cs = [a, b'] := by
    match cs, hl with
    | [a, b'], _ => exact ⟨a, b', rfl⟩
  exact ⟨own_at h1 rfl, own_at h1 rfl, h2⟩
set_option maxRecDepth 100000 in
set_option maxHeartbeats 2000000 in
theorem NeedlessBansI_any (A : Option Addr) (n c : Nat) (B : Option Addr) (m d : Nat) (ss : List Int) (bs : List Ban) (w : World) (h : TabL w A n B m ss bs) :
    Calls Try.prog 6 #[.agg #[.slice A n c, .slice B m d]] w (NeedPost (needR ss bs) (TabOk ss bs) w) := by
  have eW := (Ext.refl w).alloc (.cells #[.slice A n c, .slice B m d] 27)
  have C := Lib.hid (isKindTable_any w.heap.size A n c B m d ss bs _ (h.ext eW) (new_cell _ _ _ 0 _ rfl) (new_cell _ _ _ 1 _ rfl))
  cases h1 : TabOk ss bs
  · rw [needR_no h1]
    go_enter Try.func6, Try.ntmps6
    go_wp2_with (go_at_call 21; refine C.out.mono ?_; rintro e we ⟨rfl, he⟩; rw [h1])
    go_ret2
    exact ⟨none, 0, 0, rfl, own_nil _ _ _ _, eW.trans he⟩
  · obtain ⟨⟨t1, t2⟩, t3, t4, t5⟩ := TabOk_all h1
    have D := Lib.hid (fun (w' : World) (he : Ext w w') (p0 : w'.cell? ⟨w.heap.size, 0, none⟩ = some (.slice A n c)) (p1 : w'.cell? ⟨w.heap.size, 1, none⟩ = some (.slice B m d)) => kinds_any w.heap.size A n c B m d ss bs w' (h.ext he) p0 p1 t4 t2 t5)
    rw [needR_yes h1]
    have hn := h.sm
    have hm := h.bl.small
    have HB := Lib.hid h.bl.len
    have HP := Lib.hid (show ∀ i, needP ss bs i = decide ((frees ss (bs.eraseIdx i)).length = (frees ss bs).length) from fun i => rfl)
    have HT := Lib.hid (⟨t4, t2, t5⟩ : (∀ s ∈ ss, 1 ≤ s ∧ s ≤ 5) ∧ ss.length ≤ 5 ∧ ∀ b ∈ bs, banFits ss b = true)
    clear t1 t2 t3 t4 t5
    go_enter Try.func6, Try.ntmps6
    go_wp2_with (first | (go_at_call 21; refine C.out.mono ?_; rintro e we ⟨rfl, he⟩; rw [h1]; have p0 := he.cell1 (new_cell w #[.slice A n c, .slice B m d] 27 0 _ rfl); have p1 := he.cell1 (new_cell w #[.slice A n c, .slice B m d] 27 1 _ rfl)) | (go_at_call 22; refine (D.out _ (eW.trans he) p0 p1).mono ?_; rintro e wf ⟨Z, q, oc, zs, rfl, hzl, hzs, hL, hf⟩; have q0 := hf.cell1 p0; have q1 := hf.cell1 p1; have hzf : w.heap.size < wf.heap.size := World.block_lt_of_cell? wf _ q0))
    have HQ := Lib.hid (show (frees ss bs).length = q by rw [← hzs, List.length_map, hzl])
    have XB := Lib.hid (show Box2 w (.slice A n c) (.slice B m d) wf from ⟨eW.trans (he.trans hf), q0, q1⟩)
    have hcap := own_cap hL.row
    rw [hzl] at hcap
    unfold maxLen at hcap
    clear hL hzl hzs C D p0 p1 eW he hf q0 q1
    go_loopw [5, 15] (fun o i wr => ∃ (k : Nat) (O : Option Addr) (p pc : Nat) (L : List Int), k ≤ m ∧ i = .int .i64 k ∧ o = .slice O p pc ∧ L = idxs (needP ss bs) k ∧ wr.ownsRow (w.heap.size + 1) 3 1 (.slice O p pc) p (ints L) ∧ Box2 w (.slice A n c) (.slice B m d) wr) (fun _ i _ => m - (intOf i).toNat)
    case atStart => exact ⟨0, none, 0, 0, [], Nat.zero_le _, rfl, rfl, rfl, own_nil _ _ _ _, XB.out⟩
    case round =>
      obtain ⟨k, O, p, pc, L, hkn, rfl, rfl, hL, ho, hek⟩ := hrel
      have HO := Lib.hid ho
      have HLL := Lib.hid hL
      have hp2 : p ≤ k := by
        have h1 := ho.1
        have h2 := idxs_len (needP ss bs) k
        rw [ints_length, hL] at h1
        omega
      clear ho hL
      by_cases hlt : k < m
      · have x0 := hek.c0
        have x1 := hek.c1
        have hz0 : w.heap.size < wr.heap.size := World.block_lt_of_cell? wr _ x0
        have w1 : IntKind.i64.wrap ((k : Int) + 1) = (k : Int) + 1 := IntWalk.i64_in _ (by omega)
        obtain ⟨mm, hmm⟩ : ∃ mm, m = mm + 1 := ⟨m - 1, by omega⟩
        have HMM := Lib.hid hmm
        have hmb : k ≤ mm ∧ mm ≤ 1048576 := by omega
        clear hmm
        go_wp2
        refine wp_region_held_drew (S := (fun w' => w'.cell? ⟨w.heap.size, 0, none⟩ = some (.slice A n c) ∧ w'.cell? ⟨w.heap.size, 1, none⟩ = some (.slice B m d))) (by kernel_rfl) ?_ (fun hHeld => ?_); (focus ((try dsimp only); (repeat' apply And.intro) <;> first | assumption | exact Ext.cell1 (Ext.drew (Ext.refl _)) (by assumption) | (simp [*, go_sem]; done) | (simp [*, go_sem, World.cell?_alloc_past]; done)))
        (refine wpAnyH_take (i := 0) (v := ?_) rfl (by kernel_rfl) (by kernel_rfl) (by kernel_rfl) (fun _ _ _ h => h) (Or.inl ⟨by rfl, ?_⟩) (by assumption) ?_); rotate_left 1; (focus (intro w hSw; (try dsimp only at hSw); go_simp; (try with_reducible rfl))); (try simp only [Act.put, List.setIfInBounds_toArray, List.set_cons_zero, List.set_cons_succ]); (refine wpAnyH_take (i := 1) (v := ?_) rfl (by kernel_rfl) (by kernel_rfl) (by kernel_rfl) (fun _ _ _ h => h) (Or.inl ⟨by rfl, ?_⟩) (by assumption) ?_); rotate_left 1; (focus (intro w hSw; (try dsimp only at hSw); go_simp; (try with_reducible rfl))); (try simp only [Act.put, List.setIfInBounds_toArray, List.set_cons_zero, List.set_cons_succ]); (refine wpAnyH_take (i := 2) (v := ?_) rfl (by kernel_rfl) (by kernel_rfl) (by kernel_rfl) (fun _ _ _ h => h) (Or.inl ⟨by rfl, ?_⟩) (by assumption) ?_); rotate_left 1; (focus (intro w hSw; (try dsimp only at hSw); go_simp; (try with_reducible rfl))); (try simp only [Act.put, List.setIfInBounds_toArray, List.set_cons_zero, List.set_cons_succ]); (refine wpAnyH_take (i := 3) (v := ?_) rfl (by kernel_rfl) (by kernel_rfl) (by kernel_rfl) (fun _ _ _ h => h) (Or.inl ⟨by rfl, ?_⟩) (by assumption) ?_); rotate_left 1; (focus (intro w hSw; (try dsimp only at hSw); go_simp; (try with_reducible rfl))); (try simp only [Act.put, List.setIfInBounds_toArray, List.set_cons_zero, List.set_cons_succ]); (refine wpAnyH_take (i := 5) (v := ?_) rfl (by kernel_rfl) (by kernel_rfl) (by kernel_rfl) (fun _ _ _ h => h) (Or.inl ⟨by rfl, ?_⟩) (by assumption) ?_); rotate_left 1; (focus (intro w hSw; (try dsimp only at hSw); go_simp; (try with_reducible rfl))); (try simp only [Act.put, List.setIfInBounds_toArray, List.set_cons_zero, List.set_cons_succ]); (refine wpAnyH_take (i := 6) (v := ?_) rfl (by kernel_rfl) (by kernel_rfl) (by kernel_rfl) (fun _ _ _ h => h) (Or.inl ⟨by rfl, ?_⟩) (by assumption) ?_); rotate_left 1; (focus (intro w hSw; (try dsimp only at hSw); go_simp; (try with_reducible rfl))); (try simp only [Act.put, List.setIfInBounds_toArray, List.set_cons_zero, List.set_cons_succ]); (refine wpAnyH_take (i := 7) (v := ?_) rfl (by kernel_rfl) (by kernel_rfl) (by kernel_rfl) (fun _ _ _ h => h) (Or.inl ⟨by rfl, ?_⟩) (by assumption) ?_); rotate_left 1; (focus (intro w hSw; (try dsimp only at hSw); go_simp; (try with_reducible rfl))); (try simp only [Act.put, List.setIfInBounds_toArray, List.set_cons_zero, List.set_cons_succ])
        have RB := Lib.hid (h.bl.rd.ext (hek.ext.trans (Ext.refl wr).drew))
        have N0 := Lib.hid (show NSt w (.slice A n c) (.slice B m d) O p pc L wr.drew from ⟨hek.step (Ext.refl wr).drew, (Ext.refl wr).drew.own HO.out⟩)
        have zw : w.heap.size < wr.drew.heap.size := hz0
        clear RB
        refine wpAnyH_ready (rs := [4, 10]) (by kernel_rfl) (by simp) ?_; refine AllReadyH.cons rfl (fun K hK => ?_) (AllReadyH.cons rfl (fun K hK => ?_) (AllReadyH.nil))
        rotate_left
        focus
          have a0 := N0.out.box.c0
          have a1 := N0.out.box.c1
          have bx := own_block wr.drew 27 [.slice none 0 0, .slice none 0 0]
          simp only [World.size_drew] at bx
          have BX := Lib.hid bx
          clear bx
          have NA := Lib.hid (N0.out.step ((Ext.refl wr.drew).alloc (.cells #[.slice none 0 0, .slice none 0 0] 27)))
          go_simp; (try simp only [Act.put, List.setIfInBounds_toArray, List.set_cons_zero, List.set_cons_succ]); (try go_wp2_with fail); refine hK.out _ _ ?_ (fun hHeld => ?_); (focus (((try dsimp only); go_split_ands; (repeat' apply And.intro) <;> first | assumption | exact Ext.cell1 he1 (by assumption) | (simp [*]; done) | (simp [*, go_sem, World.cell?_alloc_past]; done)))); clear hK K; (try simp only [Act.put, List.setIfInBounds_toArray, List.set_cons_zero, List.set_cons_succ])
          clear a0 a1
          have a0 := NA.out.box.c0
          have a1 := NA.out.box.c1
          refine wpAnyH_ready (rs := [4]) (by kernel_rfl) (by simp) ?_; refine AllReadyH.cons rfl (fun K hK => ?_) AllReadyH.nil; go_simp; (go_at_call 24; refine (CloneB_any B m d bs _ hm (h.bl.rd.ext NA.out.box.ext)).mono ?_; rintro e wc ⟨gA, cc, rfl, oc1, he1⟩); (try go_wp2_with fail); refine hK.out _ _ ?_ (fun hHeld => ?_); (focus (((try dsimp only); go_split_ands; (repeat' apply And.intro) <;> first | assumption | exact Ext.cell1 he1 (by assumption) | (simp [*]; done) | (simp [*, go_sem, World.cell?_alloc_past]; done)))); clear hK K; (try simp only [Act.put, List.setIfInBounds_toArray, List.set_cons_zero, List.set_cons_succ])
          have NC := Lib.hid (NA.out.step he1)
          have BC := Lib.hid (he1.own BX.out)
          obtain ⟨gc, cap, hv, hbg, hgl⟩ := oc1.form (by omega)
          have hgA : gA = some ⟨gc, 0, none⟩ := by injection hv
          have hbg2 : w.heap.size < gc := by simp only [World.size_alloc, World.size_drew] at hbg; omega
          have OC := Lib.hid oc1
          clear hv hgl oc1 hbg
          subst hgA
          refine wpAnyH_ready (rs := [8]) (by kernel_rfl) (by simp) ?_; refine AllReadyH.cons rfl (fun K hK => ?_) AllReadyH.nil; go_simp; (go_at_call 23; refine (DeleteB_any' gc m mm cc k _ bs _ HMM.out hmb.1 hmb.2 HB.out OC.out).mono ?_; rintro e wd ⟨rfl, od, gd⟩; have ND := Lib.hid (NC.out.row gd (by omega) intBan OC.out); have BD := Lib.hid (BC.out.kept gd (own_types BC.out OC.out tabBan)); have d0 := ND.out.box.c0; have d1 := ND.out.box.c1); (try go_wp2_with fail); refine hK.out _ _ ?_ (fun hHeld => ?_); (focus (((try dsimp only); go_split_ands; (repeat' apply And.intro) <;> first | assumption | exact Ext.cell1 he1 (by assumption) | (simp [*]; done) | (simp [*, go_sem, World.cell?_alloc_past]; done)))); clear hK K; (try simp only [Act.put, List.setIfInBounds_toArray, List.set_cons_zero, List.set_cons_succ])
          (refine wpAnyH_take (i := 9) (v := ?_) rfl (by kernel_rfl) (by kernel_rfl) (by kernel_rfl) (fun _ _ _ h => h) (Or.inl ⟨by rfl, ?_⟩) (by assumption) ?_); rotate_left 1; (focus (intro w hSw; (try dsimp only at hSw); go_simp; (try with_reducible rfl))); (try simp only [Act.put, List.setIfInBounds_toArray, List.set_cons_zero, List.set_cons_succ])
          obtain ⟨k0, k1, gx⟩ := tab_stored BD.out (.slice A n c) (.slice (some ⟨gc, 0, none⟩) mm cc)
          have NF := Lib.hid (ND.out.row gx hz0 intTab BD.out)
          have ODF := Lib.hid (own_low' (od.kept gx (own_types od BD.out banTab)) (Nat.zero_le _))
          have f0 := NF.out.box.c0
          have f1 := NF.out.box.c1
          refine wpAnyH_ready (rs := [11]) (by kernel_rfl) (by simp) ?_; refine AllReadyH.cons rfl (fun K hK => ?_) AllReadyH.nil; refine step_store rfl 27 (.tmp 7) (.tmp 27) rfl wr.heap.size 0 [.slice A n c, .slice (some ⟨gc, 0, none⟩) mm cc] rfl rfl (own_there BD.out 0 2 (by simp)) sizeTab rfl rfl ?_; (try simp only [Act.put, List.setIfInBounds_toArray, List.set_cons_zero, List.set_cons_succ]); refine hK.out _ _ ?_ (fun hHeld => ?_); (focus (((try dsimp only); go_split_ands; (repeat' apply And.intro) <;> first | assumption | exact Ext.cell1 he1 (by assumption) | (simp [*]; done) | (simp [*, go_sem, World.cell?_alloc_past]; done)))); clear hK K; (try simp only [Act.put, List.setIfInBounds_toArray, List.set_cons_zero, List.set_cons_succ])
          refine wpAnyH_done (by kernel_rfl) ?_ _
          clear f0 f1 d0 d1 a0 a1 NA NC ND BX BC BD OC od gd gx N0 x0 x1
          have K0 := Lib.hid k0
          have K1 := Lib.hid k1
          clear k0 k1
          generalize wd.setCells wr.heap.size 0 [.slice A n c, .slice (some ⟨gc, 0, none⟩) mm cc] = W5 at *
          obtain ⟨xb, hxb⟩ : ∃ xb, wr.heap.size = xb := ⟨_, rfl⟩
          rw [hxb] at K0 K1
          rw [hxb]
          clear hxb
        rotate_left
        focus
          go_simp; (try simp only [Act.put, List.setIfInBounds_toArray, List.set_cons_zero, List.set_cons_succ]); (try go_wp2_with (go_at_call 24; refine (CloneB_any B m d bs _ hm (h.bl.rd.ext N0.out.box.ext)).mono ?_; rintro e wc ⟨gA, cc, rfl, oc1, he1⟩)); refine hK.out _ _ ?_ (fun hHeld => ?_); (focus (((try dsimp only); go_split_ands; (repeat' apply And.intro) <;> first | assumption | exact Ext.cell1 he1 (by assumption) | (simp [*]; done) | (simp [*, go_sem, World.cell?_alloc_past]; done)))); clear hK K; (try simp only [Act.put, List.setIfInBounds_toArray, List.set_cons_zero, List.set_cons_succ])
          have NC := Lib.hid (N0.out.step he1)
          obtain ⟨gc, cap, hv, hbg, hgl⟩ := oc1.form (by omega)
          have hgA : gA = some ⟨gc, 0, none⟩ := by injection hv
          have hbg2 : w.heap.size < gc := by simp only [World.size_drew] at hbg; omega
          have OC := Lib.hid oc1
          clear hv hgl oc1 hbg
          subst hgA
          have c0 := NC.out.box.c0
          have c1 := NC.out.box.c1
          have zx : w.heap.size < wc.heap.size := World.block_lt_of_cell? wc _ c0
          refine wpAnyH_ready (rs := [8, 10]) (by kernel_rfl) (by simp) ?_; refine AllReadyH.cons rfl (fun K hK => ?_) (AllReadyH.cons rfl (fun K hK => ?_) (AllReadyH.nil))
          rotate_left
          focus
            have BX := Lib.hid (own_block wc 27 [.slice none 0 0, .slice none 0 0])
            have NA := Lib.hid (NC.out.step ((Ext.refl wc).alloc (.cells #[.slice none 0 0, .slice none 0 0] 27)))
            have OCA := Lib.hid (((Ext.refl wc).alloc (.cells #[.slice none 0 0, .slice none 0 0] 27)).own OC.out)
            go_simp; (try simp only [Act.put, List.setIfInBounds_toArray, List.set_cons_zero, List.set_cons_succ]); (try go_wp2_with fail); refine hK.out _ _ ?_ (fun hHeld => ?_); (focus (((try dsimp only); go_split_ands; (repeat' apply And.intro) <;> first | assumption | exact Ext.cell1 he1 (by assumption) | (simp [*]; done) | (simp [*, go_sem, World.cell?_alloc_past]; done)))); clear hK K; (try simp only [Act.put, List.setIfInBounds_toArray, List.set_cons_zero, List.set_cons_succ])
            refine wpAnyH_ready (rs := [8]) (by kernel_rfl) (by simp) ?_; refine AllReadyH.cons rfl (fun K hK => ?_) AllReadyH.nil; go_simp; (go_at_call 23; refine (DeleteB_any' gc m mm cc k _ bs _ HMM.out hmb.1 hmb.2 HB.out OCA.out).mono ?_; rintro e wd ⟨rfl, od, gd⟩; have ND := Lib.hid (NA.out.row gd (by omega) intBan OCA.out); have BD := Lib.hid (BX.out.kept gd (own_types BX.out OCA.out tabBan)); have d0 := ND.out.box.c0; have d1 := ND.out.box.c1); (try go_wp2_with fail); refine hK.out _ _ ?_ (fun hHeld => ?_); (focus (((try dsimp only); go_split_ands; (repeat' apply And.intro) <;> first | assumption | exact Ext.cell1 he1 (by assumption) | (simp [*]; done) | (simp [*, go_sem, World.cell?_alloc_past]; done)))); clear hK K; (try simp only [Act.put, List.setIfInBounds_toArray, List.set_cons_zero, List.set_cons_succ])
            (refine wpAnyH_take (i := 9) (v := ?_) rfl (by kernel_rfl) (by kernel_rfl) (by kernel_rfl) (fun _ _ _ h => h) (Or.inl ⟨by rfl, ?_⟩) (by assumption) ?_); rotate_left 1; (focus (intro w hSw; (try dsimp only at hSw); go_simp; (try with_reducible rfl))); (try simp only [Act.put, List.setIfInBounds_toArray, List.set_cons_zero, List.set_cons_succ])
            obtain ⟨k0, k1, gx⟩ := tab_stored BD.out (.slice A n c) (.slice (some ⟨gc, 0, none⟩) mm cc)
            have NF := Lib.hid (ND.out.row gx zx intTab BD.out)
            have ODF := Lib.hid (own_low' (od.kept gx (own_types od BD.out banTab)) (Nat.zero_le _))
            have f0 := NF.out.box.c0
            have f1 := NF.out.box.c1
            refine wpAnyH_ready (rs := [11]) (by kernel_rfl) (by simp) ?_; refine AllReadyH.cons rfl (fun K hK => ?_) AllReadyH.nil; refine step_store rfl 27 (.tmp 7) (.tmp 27) rfl wc.heap.size 0 [.slice A n c, .slice (some ⟨gc, 0, none⟩) mm cc] rfl rfl (own_there BD.out 0 2 (by simp)) sizeTab rfl rfl ?_; (try simp only [Act.put, List.setIfInBounds_toArray, List.set_cons_zero, List.set_cons_succ]); refine hK.out _ _ ?_ (fun hHeld => ?_); (focus (((try dsimp only); go_split_ands; (repeat' apply And.intro) <;> first | assumption | exact Ext.cell1 he1 (by assumption) | (simp [*]; done) | (simp [*, go_sem, World.cell?_alloc_past]; done)))); clear hK K; (try simp only [Act.put, List.setIfInBounds_toArray, List.set_cons_zero, List.set_cons_succ])
            refine wpAnyH_done (by kernel_rfl) ?_ _
            clear f0 f1 d0 d1 c0 c1 NA NC ND BX BD OC OCA od gd gx N0 x0 x1 zx
            have K0 := Lib.hid k0
            have K1 := Lib.hid k1
            clear k0 k1
            generalize wd.setCells wc.heap.size 0 [.slice A n c, .slice (some ⟨gc, 0, none⟩) mm cc] = W5 at *
            generalize wc.heap.size = xb at *
          rotate_left
          focus
            go_simp; (try simp only [Act.put, List.setIfInBounds_toArray, List.set_cons_zero, List.set_cons_succ]); (try go_wp2_with (go_at_call 23; refine (DeleteB_any' gc m mm cc k _ bs _ HMM.out hmb.1 hmb.2 HB.out OC.out).mono ?_; rintro e wd ⟨rfl, od, gd⟩; have ND := Lib.hid (NC.out.row gd (by omega) intBan OC.out); have d0 := ND.out.box.c0; have d1 := ND.out.box.c1)); refine hK.out _ _ ?_ (fun hHeld => ?_); (focus (((try dsimp only); go_split_ands; (repeat' apply And.intro) <;> first | assumption | exact Ext.cell1 he1 (by assumption) | (simp [*]; done) | (simp [*, go_sem, World.cell?_alloc_past]; done)))); clear hK K; (try simp only [Act.put, List.setIfInBounds_toArray, List.set_cons_zero, List.set_cons_succ])
            (refine wpAnyH_take (i := 9) (v := ?_) rfl (by kernel_rfl) (by kernel_rfl) (by kernel_rfl) (fun _ _ _ h => h) (Or.inl ⟨by rfl, ?_⟩) (by assumption) ?_); rotate_left 1; (focus (intro w hSw; (try dsimp only at hSw); go_simp; (try with_reducible rfl))); (try simp only [Act.put, List.setIfInBounds_toArray, List.set_cons_zero, List.set_cons_succ])
            have BX := Lib.hid (own_block wd 27 [.slice none 0 0, .slice none 0 0])
            have NA := Lib.hid (ND.out.step ((Ext.refl wd).alloc (.cells #[.slice none 0 0, .slice none 0 0] 27)))
            have OD := Lib.hid (((Ext.refl wd).alloc (.cells #[.slice none 0 0, .slice none 0 0] 27)).own od)
            have zd : w.heap.size < wd.heap.size := World.block_lt_of_cell? wd _ d0
            refine wpAnyH_ready (rs := [10]) (by kernel_rfl) (by simp) ?_; refine AllReadyH.cons rfl (fun K hK => ?_) AllReadyH.nil; go_simp; skip; (try go_wp2_with fail); refine hK.out _ _ ?_ (fun hHeld => ?_); (focus (((try dsimp only); go_split_ands; (repeat' apply And.intro) <;> first | assumption | exact Ext.cell1 he1 (by assumption) | (simp [*]; done) | (simp [*, go_sem, World.cell?_alloc_past]; done)))); clear hK K; (try simp only [Act.put, List.setIfInBounds_toArray, List.set_cons_zero, List.set_cons_succ])
            obtain ⟨k0, k1, gx⟩ := tab_stored BX.out (.slice A n c) (.slice (some ⟨gc, 0, none⟩) mm cc)
            have NF := Lib.hid (NA.out.row gx zd intTab BX.out)
            have ODF := Lib.hid (own_low' (OD.out.kept gx (own_types OD.out BX.out banTab)) (Nat.zero_le _))
            have f0 := NF.out.box.c0
            have f1 := NF.out.box.c1
            refine wpAnyH_ready (rs := [11]) (by kernel_rfl) (by simp) ?_; refine AllReadyH.cons rfl (fun K hK => ?_) AllReadyH.nil; refine step_store rfl 27 (.tmp 7) (.tmp 27) rfl wd.heap.size 0 [.slice A n c, .slice (some ⟨gc, 0, none⟩) mm cc] rfl rfl (own_there BX.out 0 2 (by simp)) sizeTab rfl rfl ?_; (try simp only [Act.put, List.setIfInBounds_toArray, List.set_cons_zero, List.set_cons_succ]); refine hK.out _ _ ?_ (fun hHeld => ?_); (focus (((try dsimp only); go_split_ands; (repeat' apply And.intro) <;> first | assumption | exact Ext.cell1 he1 (by assumption) | (simp [*]; done) | (simp [*, go_sem, World.cell?_alloc_past]; done)))); clear hK K; (try simp only [Act.put, List.setIfInBounds_toArray, List.set_cons_zero, List.set_cons_succ])
            refine wpAnyH_done (by kernel_rfl) ?_ _
            clear f0 f1 d0 d1 c0 c1 NA NC ND BX OC OD od gd gx N0 x0 x1 zx zd
            have K0 := Lib.hid k0
            have K1 := Lib.hid k1
            clear k0 k1
            generalize (wd.alloc (.cells #[.slice none 0 0, .slice none 0 0] 27)).setCells wd.heap.size 0 [.slice A n c, .slice (some ⟨gc, 0, none⟩) mm cc] = W5 at *
            generalize wd.heap.size = xb at *
        all_goals
          have TF := Lib.hid (show TabL W5 A n (some ⟨gc, 0, none⟩) mm ss (bs.eraseIdx k) from ⟨h.sl, h.sm, h.sw, h.sr.ext NF.out.box.ext, ⟨by rw [List.length_eraseIdx_of_lt (by rw [HB.out]; exact hlt), HB.out, HMM.out]; rfl, by omega, fun x hx => h.bl.wf x (List.mem_of_mem_eraseIdx hx), Rd.own ODF.out⟩⟩)
          have KC := Lib.hid (kinds_any xb A n c (some ⟨gc, 0, none⟩) mm cc ss (bs.eraseIdx k) W5 TF.out K0.out K1.out HT.out.1 HT.out.2.1 (fun x hx => HT.out.2.2 x (List.mem_of_mem_eraseIdx hx)))
          have HPK := Lib.hid (HP.out k)
          rw [HQ.out] at HPK
          obtain ⟨q2, hq2⟩ : ∃ q2, (frees ss (bs.eraseIdx k)).length = q2 := ⟨_, rfl⟩
          rw [hq2] at HPK
          have HQ2 := Lib.hid hq2
          clear K0 K1 ODF TF hq2
          cases hd : decide (q2 = q)
          · have hs := Lib.hid (idxs_no (HPK.out.trans hd))
            have hd1 : decide ((q2 : Int) = q) = false := by
              have : ¬ q2 = q := by simpa using hd
              simp; omega
            have hd2 : ((q2 : Int) == q) = false := by
              have : ¬ q2 = q := by simpa using hd
              simp; omega
            clear hd
            go_wp2_with (go_at_call 22; refine KC.out.mono ?_; rintro e wg ⟨Z', q', oc', zs', rfl, hzl', hzs', hL', hg⟩; (obtain rfl : q' = q2 := by rw [← HQ2.out, ← hzs', List.length_map, hzl']); clear hzl' hzs' hL')
            have NG := NF.out.step hg
            go_roundw
            case rel => exact ⟨k + 1, O, p, pc, L, by omega, by go_num, rfl, by rw [hs.out]; exact HLL.out, NG.out, NG.box⟩
            case measure => simp [intOf]; omega
          · have hs := Lib.hid (idxs_more' (HPK.out.trans hd))
            obtain rfl : q2 = q := by simpa using hd
            clear hd
            go_wp2_with (first | (go_at_call 22; refine KC.out.mono ?_; rintro e wg ⟨Z', q', oc', zs', rfl, hzl', hzs', hL', hg⟩; (obtain rfl : q' = q2 := by rw [← HQ2.out, ← hzs', List.length_map, hzl']); clear hzl' hzs' hL'; have NG := Lib.hid (NF.out.step hg)) | (at_builtin; refine app_int rfl (.tmp 32) (.tmp 34) rfl (w.heap.size + 1) p pc wg.heap.size O L (k : Int) rfl rfl (NG.out.out.alloc _) (new_cell _ _ _ 0 _ rfl) (by omega) (by have hh : w.heap.size < wg.heap.size := World.block_lt_of_cell? wg _ NG.out.box.c0; simp only [World.size_alloc]; omega) ?_; intro O' oc2 w' hown' hgrow hoff'))
            go_roundw
            case rel => exact ⟨k + 1, O', p + 1, oc2, L ++ [(k : Int)], by omega, by go_num, rfl, by rw [hs.out, HLL.out], hown', (NG.out.box.step ((Ext.refl _).alloc _)).grow (NG.out.out.alloc _) hgrow⟩
            case measure => simp [intOf]; omega
      · obtain rfl : k = m := by omega
        go_wp2
        go_ret2
        exact ⟨O, p, pc, rfl, by rw [HB.out, ← HLL.out]; exact own_low' HO.out (by omega), hek.ext⟩
end Go.Proofs.Ytekggbmpogmlcaa
