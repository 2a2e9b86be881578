/- AddBan: the reference's entry (made by wip/addbans.py). -/
import Derived.Test.YtekggbmpogmlcaaDoorAddK
import Derived.Deep.RegionHeld3
import Derived.Deep.CutBlock
namespace Go.Proofs.YtekggbmpogmlcaaDoor
open Go.RowKit
set_option linter.unusedVariables false
set_option linter.unusedSimpArgs false
attribute [local go_sem] ExtOf.cell

set_option maxRecDepth 100000 in
set_option maxHeartbeats 1000000 in
theorem l1Own_any (a : Addr) (n c : Nat) (l : List Int) (w : World) (hn : n ≤ 1048576) (hr : Rd w (some a) n 1 (ints l)) :
    Calls Tryd.prog 66 #[.slice (some a) n c] w fun e w' => ∃ A' c', e = .returned (.slice A' n c') ∧ w'.ownsRow w.heap.size 3 1 (.slice A' n c') n (ints l) ∧ Ext w w' := by
  obtain ⟨i0, hi, hz0, hz1, hz2⟩ := info_parts intInfo
  have HC : ∀ j u, (ints l)[j]? = some u → w.cell? (a.add j) = some u := fun j u hj => by
    have hl := (List.getElem?_eq_some_iff.1 hj).1
    have h1 := hr.1
    obtain ⟨b, off, e, _, hc⟩ := hr.2 (by omega)
    injection e with e; subst e
    rw [Addr.add_mid]; exact hc j u hj
  have HC := Lib.hid HC
  have HL := Lib.hid hr.1
  clear hr
  go_enter Tryd.func66, Tryd.ntmps66
  go_wp2_with (at_builtin; refine wpList_append_own _ rfl _ _ 24 rfl w.heap.size 3 i0 (.int .i64 0) 1 8 Tryd.underlying24 hi hz0 hz1 hz2 rfl (by decide) _ _ _ rfl (World.ownsRow_made w #[] 0 (Nat.le_refl _) (Nat.zero_le _) rfl) a n c (ints l) rfl ?qc1 ?qc2 ?qc3 ?qc4 ?qc5 ?qc6 ?_)
  case qc1 => exact HL.out
  case qc2 => exact fun j u hj => ((Ext.refl w).alloc _).cellp (HC.out j u hj)
  case qc3 => intro u hu; obtain ⟨x, _, rfl⟩ := List.mem_map.1 hu; rfl
  case qc4 => unfold maxLen; omega
  case qc5 => omega
  case qc6 => simp
  intro v' w1 hown hgrow hnil
  go_wp2
  go_ret
  obtain ⟨A', c', rfl⟩ := own_slice hown
  exact ⟨A', c', by simp, by simpa using hown, ((Ext.refl w).alloc _).grown hgrow (by intro k hk; simp [Value.ownBlock] at hk; omega)⟩
theorem rdy {P : Program} {ops : Array Oper} {Q : Exit → Act → World → Prop} {md : Region.Mode} {S : World → Prop} {fuel : Nat} {listed : Array Bool} {a : Act} {w : World} (i : Nat) {o : Oper} (hr : Region.ready md ops listed = [i]) (ho : ops[i]? = some o)
    (h : ∀ K' : Act → World → Prop, Shut (∀ a w, S w → (S w → wpAnyH P md ops Q S fuel (listed.setIfInBounds i true) a w) → K' a w) → if Region.wanted o (yielded ops a.tmps) = true then Oper.wp P o a w K' Q else K' (a.put o.dst undef) w) :
    wpAnyH P md ops Q S (fuel + 1) listed a w := wpAnyH_ready hr (by simp) (AllReadyH.cons ho h AllReadyH.nil)
open List (setIfInBounds_toArray set_cons_zero set_cons_succ)
theorem step_app_ban {ops : Array Oper} {o : Oper} {a : Act} {w : World} {K : Act → World → Prop} {Q : Exit → Act → World → Prop} {E : Prop}
    (hg : o.guard = none) (s x : Operand) (hop : o.op = Op.call { callee := Callee.builtin Builtin.append, args := #[s, x], argTypes := #[25, 25] })
    (base : Nat) (v : Value) (n : Nat) (xs : List Value) (hs : a.eval s = v) (hown : w.ownsRow base 61 4 v n xs)
    (ad : Addr) (m c : Nat) (news : List Value) (hx : a.eval x = .slice (some ad) m c) (hl : news.length = m * 4) (hnews : ∀ j u, news[j]? = some u → w.cell? (ad.add j) = some u) (h1 : ∀ u ∈ news, u.oneCell' = true)
    (h63 : n + m ≤ 1000000) (hbase : base ≤ w.heap.size) (k : Nat) (hd : o.dst = some k)
    (N : Nat) (hN : n + m = N) (R : List Value) (hR : xs ++ news = R)
    (h : ∀ A' c' w', w'.ownsRow base 61 4 (.slice A' N c') N R → w.grownBy w' v.ownBlock → K (a.put (some k) (.slice A' N c')) w') :
    if Region.wanted o (yielded ops a.tmps) = true then Oper.wp Tryd.prog o a w K Q else E := by
  obtain ⟨i0, hi0, hz0v, hz1, hz2⟩ := info_parts infoBan
  exact step_app_own hg s x 25 hop base 61 i0 (.agg #[.int .i64 0, .int .i64 0, .int .i64 0, .int .i64 0]) 4 32 Tryd.underlying25 hi0 hz0v hz1 hz2 rfl (by decide) v n xs hs hown ad m c news hx hl hnews h1 (by unfold maxLen; omega) (by omega) hbase k hd N hN R hR h
set_option maxRecDepth 100000 in
set_option maxHeartbeats 16000000 in
theorem AddBanS_any (aa : Addr) (n c bb off m d : Nat) (ss : List Int) (bs : List Ban) (b : Ban) (w : World) (h : TabL w (some aa) n (some ⟨bb, off, none⟩) m ss bs) (hmd : m ≤ d) (hbw : b.Wf) :
    Calls Tryd.prog 53 #[.agg #[.slice (some aa) n c, .slice (some ⟨bb, off, none⟩) m d], .agg #[.int .i64 b.A, .int .i64 b.X, .int .i64 b.B, .int .i64 b.Y]] w (TabPost (okA ss bs b) ss (insB bs b) w) := by
  obtain ⟨i0, hi0, hz0v, hz1, hz2⟩ := info_parts infoBan
  have N0 := Lib.hid (ASt.new w (.slice (some aa) n c) (.slice (some ⟨bb, off, none⟩) m d) b)
  have C := Lib.hid (l6Good_any (some aa) n c (some ⟨bb, off, none⟩) m d ss bs _ (h.ext N0.out.ext))
  cases h1 : TabOk ss bs
  · have hv : okA ss bs b = false := by simp [okA, h1]
    rw [hv]
    go_enter Tryd.func53, Tryd.ntmps53
    go_wp2_with (first | (go_at_call 23; refine C.out.mono ?_; rintro e we ⟨rfl, he⟩; rw [h1]; have NE := Lib.hid (N0.out.step he)) | (refine wpList_store_own rfl 27 (.tmp 4) (.tmp 18) rfl (w.heap.size + 2) 0 [.slice none 0 0, .slice none 0 0] rfl rfl 0 27 2 1 1 _ NE.out.r (by simp) sizeTab rfl ?_; intro w2 ho2 hg2))
    have r0 := own_at ho2 (j := 0) rfl
    have r1 := own_at ho2 (j := 1) rfl
    exact bodyPost_ret (v := .tuple #[.agg #[.slice none 0 0, .slice none 0 0], .bool false]) (by simp [results, Tryd.results53, go_sem, r0, r1]) rfl ⟨none, 0, 0, none, 0, 0, rfl, own_nil _ _ _ _, own_nil _ _ _ _, NE.out.ext.row hg2 (by omega)⟩
  obtain ⟨⟨t1, t2⟩, t3, t4, t5⟩ := TabOk_all h1
  have hn := h.sm
  have hm := h.bl.small
  have HB := Lib.hid h.bl.len
  have HBF := Lib.hid (fun (w' : World) (he : Ext w w') => l6Ban_any (some aa) n c ss b w' h.sl (by have := h.sl; omega) t4 (h.sr.ext he))
  cases h2 : banFits ss b
  · have hv : okA ss bs b = false := by simp [okA, unfit_bad h2]
    rw [hv]
    clear t4 t5
    go_enter Tryd.func53, Tryd.ntmps53
    go_wp2_with (first | (go_at_call 23; refine C.out.mono ?_; rintro e we ⟨rfl, he⟩; rw [h1]; have N1 := Lib.hid (N0.out.step he); have c0 := N1.out.c0; have c1 := N1.out.c1; have d0 := N1.out.d0; have d1 := N1.out.d1; have d2 := N1.out.d2; have d3 := N1.out.d3; have ltz := N1.out.lt; have lty : w.heap.size < we.heap.size := (by omega); have ltx : w.heap.size + 1 < we.heap.size := (by omega)) | (go_at_call 42; refine (HBF.out _ N1.out.ext).mono ?_; rintro e wq ⟨rfl, hq⟩; rw [h2]; have NE := Lib.hid (N1.out.step hq)) | (refine wpList_store_own rfl 27 (.tmp 4) (.tmp 18) rfl (w.heap.size + 2) 0 [.slice none 0 0, .slice none 0 0] rfl rfl 0 27 2 1 1 _ NE.out.r (by simp) sizeTab rfl ?_; intro w2 ho2 hg2))
    have r0 := own_at ho2 (j := 0) rfl
    have r1 := own_at ho2 (j := 1) rfl
    exact bodyPost_ret (v := .tuple #[.agg #[.slice none 0 0, .slice none 0 0], .bool false]) (by simp [results, Tryd.results53, go_sem, r0, r1]) rfl ⟨none, 0, 0, none, 0, 0, rfl, own_nil _ _ _ _, own_nil _ _ _ _, NE.out.ext.row hg2 (by omega)⟩
  have hok : okA ss bs b = TabOk ss (insB bs b) := by simp [okA, h1]
  rw [hok]
  have hm20 : m ≤ 20 := by have := h.bl.len; omega
  have hl5 : ss.length ≤ 5 := t2
  have HS5 := Lib.hid t4
  have HFT := Lib.hid t5
  have HU := Lib.hid (fun k hk => @IsAt.unique bs b k (placeOf bs b) hk (placeOf_at bs b))
  have HSO := Lib.hid (TabOk_sorted h1)
  clear t4 t5 hok t1 t2 t3
  go_enter Tryd.func53, Tryd.ntmps53
  go_upto_block 0 with (first | (go_at_call 23; refine C.out.mono ?_; rintro e we ⟨rfl, he⟩; rw [h1]; have N1 := Lib.hid (N0.out.step he); have c0 := N1.out.c0; have c1 := N1.out.c1; have d0 := N1.out.d0; have d1 := N1.out.d1; have d2 := N1.out.d2; have d3 := N1.out.d3; have ltz := N1.out.lt; have lty : w.heap.size < we.heap.size := (by omega); have ltx : w.heap.size + 1 < we.heap.size := (by omega)) | (go_at_call 42; refine (HBF.out _ N1.out.ext).mono ?_; rintro e wq ⟨rfl, hq⟩; rw [h2]))
  have N2 := Lib.hid (N1.out.step hq)
  clear c0 c1 d0 d1 d2 d3 ltz lty ltx N0 N1 C HBF he hq
  go_cut [6] from 19 to 36 (fun k W => k = .int .i64 (placeOf bs b) ∧ ASt w (.slice (some aa) n c) (.slice (some ⟨bb, off, none⟩) m d) b W)
  case first =>
    go_wp2
    go_loopw [6] (fun i wr => ∃ k : Nat, k ≤ m ∧ i = .int .i64 k ∧ (∀ j y, j < k → bs[j]? = some y → banLess y b = true) ∧ ASt w (.slice (some aa) n c) (.slice (some ⟨bb, off, none⟩) m d) b wr) (fun i _ => m - (intOf i).toNat)
    case atStart => exact ⟨0, Nat.zero_le _, rfl, fun j y hj => by omega, N2.out⟩
    case round =>
      obtain ⟨k, hkm, rfl, hlo, hA⟩ := hrel
      have HLO := Lib.hid hlo
      have NR := Lib.hid hA
      have x0 := hA.c0
      have x1 := hA.c1
      have y0 := hA.d0
      have y1 := hA.d1
      have y2 := hA.d2
      have y3 := hA.d3
      have ltz := hA.lt
      have lty : w.heap.size < wr.heap.size := by omega
      have ltx : w.heap.size + 1 < wr.heap.size := by omega
      clear hlo hA N2
      by_cases hlt : k < m
      · obtain ⟨b2, off2, z, hB2, hb2, hz, g0, g1, g2, g3⟩ := (h.bl.ext NR.out.ext).at_ hlt
        injection hB2 with hB2
        injection hB2 with hb1 ho1
        subst hb1; subst ho1
        have HFZ := Lib.hid (HFT.out z (List.mem_of_getElem? hz.out))
        have hcode := banLess_code HS5.out hl5 h2 HFZ.out
        cases hly : banLess z b
        · rw [hly] at hcode
          have hle : banCode b ≤ banCode z := by
            have h9 : decide (banCode b ≤ banCode z) = true := by
              cases hd : decide (banCode b ≤ banCode z)
              · rw [hd] at hcode; cases hcode
              · rfl
            simpa using h9
          have hdc : decide (banCode z < banCode b) = false := decide_eq_false (by omega)
          have HP := Lib.hid (HU.out k ⟨by have := HB.out; omega, HLO.out, fun y hy => by
            obtain rfl : z = y := by have := hz.out.symm.trans hy; injection this
            exact hly⟩)
          have hfz := HFZ.out
          clear hcode hle hly
          go_wp2
          (refine wp_region_ext_lit (by kernel_rfl) (by kernel_rfl) ?_; (repeat (go_big_quiet_step ((go_at_call 43; exact ext_call (l6Code_any ss _ HS5.out hl5 (by assumption) _))))); refine wpQuiet_nil ?_; rintro wq ⟨⟨_, heq⟩, rfl⟩; (try dsimp only))
          go_wp2
          go_meet
          exact ⟨by rw [HP.out], NR.out.step heq⟩
        · rw [hly] at hcode
          have hlt2 : banCode z < banCode b := by
            have h9 : decide (banCode b ≤ banCode z) = false := by
              cases hd : decide (banCode b ≤ banCode z)
              · rfl
              · rw [hd] at hcode; cases hcode
            have : ¬ (banCode b ≤ banCode z) := of_decide_eq_false h9
            omega
          have hdc : decide (banCode z < banCode b) = true := decide_eq_true hlt2
          have HLN := Lib.hid (show ∀ j y, j < k + 1 → bs[j]? = some y → banLess y b = true from fun j y' hj hy' => by
            rcases Nat.eq_or_lt_of_le (Nat.le_of_lt_succ hj) with e | hj
            · subst e
              obtain rfl : z = y' := by have := hz.out.symm.trans hy'; injection this
              exact hly
            · exact HLO.out j y' hj hy')
          have hfz := HFZ.out
          clear hcode hlt2 hly
          go_wp2
          (refine wp_region_ext_lit (by kernel_rfl) (by kernel_rfl) ?_; (repeat (go_big_quiet_step ((go_at_call 43; exact ext_call (l6Code_any ss _ HS5.out hl5 (by assumption) _))))); refine wpQuiet_nil ?_; rintro wq ⟨⟨_, heq⟩, rfl⟩; (try dsimp only))
          go_wp2
          go_roundw
          case rel => exact ⟨k + 1, by omega, by go_num, HLN.out, NR.out.step heq⟩
          case measure => simp [intOf]; omega
      · have HKM := Lib.hid (show k = m by omega)
        have z1 : decide ((k : Int) < (m : Int)) = false := by simp; omega
        have z2 : decide (k < m) = false := by simp; omega
        have HP := Lib.hid (HU.out k ⟨by have := HB.out; omega, HLO.out, fun y hy => by
          have := (List.getElem?_eq_some_iff.1 hy).1; have := HB.out; omega⟩)
        clear hlt
        go_wp2
        (refine wp_region_ext_lit (by kernel_rfl) (by kernel_rfl) ?_; (repeat (go_big_quiet_step (fail))); refine wpQuiet_nil ?_; rintro wq ⟨⟨_, heq⟩, rfl⟩; (try dsimp only))
        go_wp2
        go_meet
        exact ⟨by rw [HP.out], NR.out.step heq⟩
  case rest =>
    obtain ⟨rfl, hA⟩ := hcut
    have N2 := Lib.hid (hA.step (Ext.refl wc).drew)
    have HPL := Lib.hid (show placeOf bs b ≤ m by have := (placeOf_at bs b).le; have := HB.out; omega)
    have HFB := Lib.hid (fun hf => @found_bad ss bs b hf)
    have HIN := Lib.hid (show insB bs b = bs.take (placeOf bs b) ++ b :: bs.drop (placeOf bs b) from rfl)
    have HIL := Lib.hid (insB_len bs b)
    generalize placeOf bs b = kp at *
    have hk1 : kp ≤ m := HPL.out
    have HBD := Lib.hid (show ∀ W, Ext w W → ∀ j u, (bs.flatMap Ban.cs)[j]? = some u → W.cell? ⟨bb, off + j, none⟩ = some u from fun W he j u hu => by
      have hl := (List.getElem?_eq_some_iff.1 hu).1
      rw [bans_len, HB.out] at hl
      obtain ⟨b', off', e, _, hc⟩ := (h.bl.rd.ext he).2 (by omega)
      injection e with e
      injection e with e1 e2
      subst e1; subst e2
      exact hc j u hu)
    obtain ⟨A2, hA2, hsrc⟩ : ∃ A2 : Addr, (if d = kp then some (⟨bb, off, none⟩ : Addr) else some ⟨bb, off + kp * 4, none⟩) = some A2 ∧ Hid (∀ W, Ext w W → ∀ j u, ((bs.drop kp).flatMap Ban.cs)[j]? = some u → W.cell? (A2.add j) = some u) := by
      have hl2 : ((bs.drop kp).flatMap Ban.cs).length = (m - kp) * 4 := by rw [bans_len, List.length_drop, HB.out]
      by_cases hd : d = kp
      · refine ⟨⟨bb, off, none⟩, by simp [hd], fun W he j u hu => ?_⟩
        have h0 : ((bs.drop kp).flatMap Ban.cs).length = 0 := by rw [hl2]; omega
        rw [List.length_eq_zero_iff.1 h0] at hu
        simp at hu
      · refine ⟨⟨bb, off + kp * 4, none⟩, by simp [hd], fun W he j u hu => ?_⟩
        rw [Addr.add_mid, Nat.add_assoc]
        refine HBD.out W he _ _ ?_
        have e1 : bs.flatMap Ban.cs = (bs.take kp).flatMap Ban.cs ++ (bs.drop kp).flatMap Ban.cs := by rw [← List.flatMap_append, List.take_append_drop]
        rw [e1, List.getElem?_append_right (by rw [bans_len, List.length_take, HB.out]; omega), bans_len, List.length_take, HB.out, Nat.min_eq_left (by omega), Nat.add_sub_cancel_left]
        exact hu
    have HS1 := Lib.hid (show ∀ W, Ext w W → ∀ j u, ((bs.take kp).flatMap Ban.cs)[j]? = some u → W.cell? ((⟨bb, off, none⟩ : Addr).add j) = some u from fun W he j u hu => by
      rw [Addr.add_mid]
      refine HBD.out W he _ _ ?_
      have e1 : bs.flatMap Ban.cs = (bs.take kp).flatMap Ban.cs ++ (bs.drop kp).flatMap Ban.cs := by rw [← List.flatMap_append, List.take_append_drop]
      rw [e1, List.getElem?_append_left ((List.getElem?_eq_some_iff.1 hu).1)]
      exact hu)
    have HL1 := Lib.hid (show ((bs.take kp).flatMap Ban.cs).length = kp * 4 by rw [bans_len, List.length_take, HB.out, Nat.min_eq_left (by omega)])
    have HL2 := Lib.hid (show ((bs.drop kp).flatMap Ban.cs).length = (m - kp) * 4 by rw [bans_len, List.length_drop, HB.out])
    have HE := Lib.hid (show ((bs.take kp).flatMap Ban.cs ++ b.cs) ++ (bs.drop kp).flatMap Ban.cs = (insB bs b).flatMap Ban.cs by rw [HIN.out]; simp [List.flatMap_append, List.flatMap_cons])
    have HBO := Lib.hid (show ∀ u ∈ b.cs, u.oneCell' = true from fun u hu => by simp [Ban.cs] at hu; rcases hu with rfl | rfl | rfl | rfl <;> rfl)
    have hmk : kp + 1 + (m - kp) = m + 1 := by omega
    have hkd : kp ≤ d := by omega
    have hz2' : (kp : Int) ≤ (m : Int) := by omega
    have hz3' : (kp : Int) ≤ (d : Int) := by omega
    have ltz := hA.lt
    have lty : w.heap.size < wc.heap.size := by omega
    have ltx : w.heap.size + 1 < wc.heap.size := by omega
    clear hA HBD HU HFT
    go_upto_region 6 with fail
    go_cut [7] from 37 to 57 (fun p W => ∃ xb A1 c1 A9 c9, p = .pointer (some ⟨xb, 0, none⟩) ∧ w.heap.size + 2 < xb ∧ W.cell? ⟨xb, 0, none⟩ = some (.slice A1 n c1) ∧ W.cell? ⟨xb, 1, none⟩ = some (.slice A9 (m + 1) c9) ∧ ASt w (.slice (some aa) n c) (.slice (some ⟨bb, off, none⟩) m d) b W ∧ W.ownsRow (w.heap.size + 3) 3 1 (.slice A1 n c1) n (ints ss) ∧ W.ownsRow (w.heap.size + 3) 61 4 (.slice A9 (m + 1) c9) (m + 1) ((insB bs b).flatMap Ban.cs))
    case first =>
     refine wp_region_held_drew (S := fun w' => ASt w (.slice (some aa) n c) (.slice (some ⟨bb, off, none⟩) m d) b w') (by kernel_rfl) ?_ (fun hHeld => ?_); (focus exact N2.out)
     refine wpAnyH_take (i := 0) (v := ?_) rfl (by kernel_rfl) (by kernel_rfl) (by kernel_rfl) (fun _ _ _ h => h) (Or.inl ⟨by rfl, ?_⟩) (by assumption) ?_; rotate_left 1; (focus (intro w hSw; (try dsimp only at hSw); (have q0 := hSw.c0; have q1 := hSw.c1; have q2 := hSw.d0; have q3 := hSw.d1; have q4 := hSw.d2; have q5 := hSw.d3); go_simp; (try with_reducible rfl))); (try simp only [Act.put, setIfInBounds_toArray, set_cons_zero, set_cons_succ])
     refine wpAnyH_take (i := 1) (v := ?_) rfl (by kernel_rfl) (by kernel_rfl) (by kernel_rfl) (fun _ _ _ h => h) (Or.inl ⟨by rfl, ?_⟩) (by assumption) ?_; rotate_left 1; (focus (intro w hSw; (try dsimp only at hSw); (have q0 := hSw.c0; have q1 := hSw.c1; have q2 := hSw.d0; have q3 := hSw.d1; have q4 := hSw.d2; have q5 := hSw.d3); go_simp; (try with_reducible rfl))); (try simp only [Act.put, setIfInBounds_toArray, set_cons_zero, set_cons_succ])
     refine wpAnyH_take (i := 4) (v := ?_) rfl (by kernel_rfl) (by kernel_rfl) (by kernel_rfl) (fun _ _ _ h => h) (Or.inl ⟨by rfl, ?_⟩) (by assumption) ?_; rotate_left 1; (focus (intro w hSw; (try dsimp only at hSw); (have q0 := hSw.c0; have q1 := hSw.c1; have q2 := hSw.d0; have q3 := hSw.d1; have q4 := hSw.d2; have q5 := hSw.d3); go_simp; (try with_reducible rfl))); (try simp only [Act.put, setIfInBounds_toArray, set_cons_zero, set_cons_succ])
     refine wpAnyH_take (i := 5) (v := ?_) rfl (by kernel_rfl) (by kernel_rfl) (by kernel_rfl) (fun _ _ _ h => h) (Or.inl ⟨by rfl, ?_⟩) (by assumption) ?_; rotate_left 1; (focus (intro w hSw; (try dsimp only at hSw); (have q0 := hSw.c0; have q1 := hSw.c1; have q2 := hSw.d0; have q3 := hSw.d1; have q4 := hSw.d2; have q5 := hSw.d3); go_simp; (try with_reducible rfl))); (try simp only [Act.put, setIfInBounds_toArray, set_cons_zero, set_cons_succ])
     refine wpAnyH_take (i := 6) (v := ?_) rfl (by kernel_rfl) (by kernel_rfl) (by kernel_rfl) (fun _ _ _ h => h) (Or.inl ⟨by rfl, ?_⟩) (by assumption) ?_; rotate_left 1; (focus (intro w hSw; (try dsimp only at hSw); (have q0 := hSw.c0; have q1 := hSw.c1; have q2 := hSw.d0; have q3 := hSw.d1; have q4 := hSw.d2; have q5 := hSw.d3); go_simp; (try with_reducible rfl))); (try simp only [Act.put, setIfInBounds_toArray, set_cons_zero, set_cons_succ])
     refine wpAnyH_take (i := 7) (v := ?_) rfl (by kernel_rfl) (by kernel_rfl) (by kernel_rfl) (fun _ _ _ h => h) (Or.inl ⟨by rfl, ?_⟩) (by assumption) ?_; rotate_left 1; (focus (intro w hSw; (try dsimp only at hSw); (have q0 := hSw.c0; have q1 := hSw.c1; have q2 := hSw.d0; have q3 := hSw.d1; have q4 := hSw.d2; have q5 := hSw.d3); go_simp; (try with_reducible rfl))); (try simp only [Act.put, setIfInBounds_toArray, set_cons_zero, set_cons_succ])
     refine wpAnyH_take (i := 9) (v := ?_) rfl (by kernel_rfl) (by kernel_rfl) (by kernel_rfl) (fun _ _ _ h => h) (Or.inl ⟨by rfl, ?_⟩) (by assumption) ?_; rotate_left 1; (focus (intro w hSw; (try dsimp only at hSw); (have q0 := hSw.c0; have q1 := hSw.c1; have q2 := hSw.d0; have q3 := hSw.d1; have q4 := hSw.d2; have q5 := hSw.d3); go_simp; (try with_reducible rfl))); (try simp only [Act.put, setIfInBounds_toArray, set_cons_zero, set_cons_succ])
     refine wpAnyH_take (i := 12) (v := ?_) rfl (by kernel_rfl) (by kernel_rfl) (by kernel_rfl) (fun _ _ _ h => h) (Or.inl ⟨by rfl, ?_⟩) (by assumption) ?_; rotate_left 1; (focus (intro w hSw; (try dsimp only at hSw); (have q0 := hSw.c0; have q1 := hSw.c1; have q2 := hSw.d0; have q3 := hSw.d1; have q4 := hSw.d2; have q5 := hSw.d3); go_simp; (try with_reducible rfl))); (try simp only [Act.put, setIfInBounds_toArray, set_cons_zero, set_cons_succ])
     refine wpAnyH_take (i := 13) (v := ?_) rfl (by kernel_rfl) (by kernel_rfl) (by kernel_rfl) (fun _ _ _ h => h) (Or.inl ⟨by rfl, ?_⟩) (by assumption) ?_; rotate_left 1; (focus (intro w hSw; (try dsimp only at hSw); (have q0 := hSw.c0; have q1 := hSw.c1; have q2 := hSw.d0; have q3 := hSw.d1; have q4 := hSw.d2; have q5 := hSw.d3); go_simp; (try with_reducible rfl))); (try simp only [Act.put, setIfInBounds_toArray, set_cons_zero, set_cons_succ])
     refine wpAnyH_take (i := 14) (v := ?_) rfl (by kernel_rfl) (by kernel_rfl) (by kernel_rfl) (fun _ _ _ h => h) (Or.inl ⟨by rfl, ?_⟩) (by assumption) ?_; rotate_left 1; (focus (intro w hSw; (try dsimp only at hSw); (have q0 := hSw.c0; have q1 := hSw.c1; have q2 := hSw.d0; have q3 := hSw.d1; have q4 := hSw.d2; have q5 := hSw.d3); go_simp; (try with_reducible rfl))); (try simp only [Act.put, setIfInBounds_toArray, set_cons_zero, set_cons_succ])
     refine wpAnyH_take (i := 15) (v := ?_) rfl (by kernel_rfl) (by kernel_rfl) (by kernel_rfl) (fun _ _ _ h => h) (Or.inl ⟨by rfl, ?_⟩) (by assumption) ?_; rotate_left 1; (focus (intro w hSw; (try dsimp only at hSw); (have q0 := hSw.c0; have q1 := hSw.c1; have q2 := hSw.d0; have q3 := hSw.d1; have q4 := hSw.d2; have q5 := hSw.d3); go_simp; (try with_reducible rfl))); (try simp only [Act.put, setIfInBounds_toArray, set_cons_zero, set_cons_succ])
     refine wpAnyH_ready (rs := [2, 3, 10, 18]) (by kernel_rfl) (by simp) ?_; refine AllReadyH.cons rfl (fun K hK => ?_) (AllReadyH.cons rfl (fun K hK => ?_) (AllReadyH.cons rfl (fun K hK => ?_) (AllReadyH.cons rfl (fun K hK => ?_) (AllReadyH.nil))))
     focus
      go_simp; (try simp only [Act.put, setIfInBounds_toArray, set_cons_zero, set_cons_succ]); (try go_wp2_with (go_at_call 66; refine (l1Own_any aa n c ss _ hn (h.sr.ext N2.out.ext)).mono ?_; rintro e w0 ⟨A1, c1, rfl, oc0, he1⟩)); refine hK.out _ _ (N2.out.step he1) fun hHeld => ?_; clear hK K; (try simp only [Act.put, setIfInBounds_toArray, set_cons_zero, set_cons_succ])
      have N0 := Lib.hid (N2.out.step he1)
      have rin0 := Lib.hid (own_low' oc0 (show w.heap.size + 3 ≤ _ from N2.out.lt))
      clear oc0 he1
      refine wpAnyH_ready (rs := [3, 10, 18]) (by kernel_rfl) (by simp) ?_; refine AllReadyH.cons rfl (fun K hK => ?_) (AllReadyH.cons rfl (fun K hK => ?_) (AllReadyH.cons rfl (fun K hK => ?_) (AllReadyH.nil)))
      focus
       have ex1 := (Ext.refl (w0)).alloc (.cells #[] 61)
       have N1 := Lib.hid (N0.out.step ex1)
       go_simp; (try simp only [Act.put, setIfInBounds_toArray, set_cons_zero, set_cons_succ]); (try go_wp2_with fail); refine hK.out _ _ N1.out fun hHeld => ?_; clear hK K; (try simp only [Act.put, setIfInBounds_toArray, set_cons_zero, set_cons_succ])
       have bx1 := own_empty (w0) (w.heap.size + 3) 61 4 (show w.heap.size + 3 ≤ _ from N0.out.lt)
       have lt1 := N0.out.lt
       (try simp only [World.size_alloc, World.size_drew] at bx1 lt1)
       have ri1 := Lib.hid (ex1.own rin0.out)
       have rbn1 := Lib.hid bx1
       clear bx1 ex1
       refine wpAnyH_ready (rs := [8, 10, 18]) (by kernel_rfl) (by simp) ?_; refine AllReadyH.cons rfl (fun K hK => ?_) (AllReadyH.cons rfl (fun K hK => ?_) (AllReadyH.cons rfl (fun K hK => ?_) (AllReadyH.nil)))
       focus
        refine step_app_ban rfl (.tmp 40) (.tmp 44) rfl (w.heap.size + 3) _ 0 [] rfl rbn1.out ⟨bb, off, none⟩ kp d ((bs.take kp).flatMap Ban.cs) rfl HL1.out (HS1.out _ N1.out.ext) (bans_one _) (by omega) N1.out.lt 45 rfl kp (Nat.zero_add kp) ((bs.take kp).flatMap Ban.cs) (List.nil_append _) ?_; intro Ap2 cp2 w2 op2 gp2; have N2 := Lib.hid (N1.out.grow gp2 rbn1.out); have ri2 := Lib.hid (ri1.out.kept gp2 (own_types ri1.out rbn1.out intBan)); have rb2 := Lib.hid op2; clear op2 gp2; refine hK.out _ _ N2.out fun hHeld => ?_; clear hK K; (try simp only [Act.put, setIfInBounds_toArray, set_cons_zero, set_cons_succ])
        refine wpAnyH_ready (rs := [10, 18]) (by kernel_rfl) (by simp) ?_; refine AllReadyH.cons rfl (fun K hK => ?_) (AllReadyH.cons rfl (fun K hK => ?_) (AllReadyH.nil))
        focus
         have NE := Lib.hid (show ∀ k, Value.ownBlock (.slice Ap2 kp cp2) = some k → k ≠ w2.heap.size from fun k hk => by have hh := (rb2.out.lt k hk).2; (try simp only [World.size_alloc, World.size_drew] at hh); omega)
         have ex3 := (Ext.refl (w2)).alloc (.cells #[.int .i64 b.A, .int .i64 b.X, .int .i64 b.B, .int .i64 b.Y] 61)
         have N3 := Lib.hid (N2.out.step ex3)
         go_simp; (try simp only [Act.put, setIfInBounds_toArray, set_cons_zero, set_cons_succ]); (try go_wp2_with fail); refine hK.out _ _ N3.out fun hHeld => ?_; clear hK K; (try simp only [Act.put, setIfInBounds_toArray, set_cons_zero, set_cons_succ])
         have bx3 := own_low' (own_block (w2) 61 [.int .i64 b.A, .int .i64 b.X, .int .i64 b.B, .int .i64 b.Y]) (Nat.zero_le _)
         have lt3 := N2.out.lt
         (try simp only [World.size_alloc, World.size_drew] at bx3 lt3)
         have ri3 := Lib.hid (ex3.own ri2.out)
         have rb3 := Lib.hid (ex3.own rb2.out)
         have rvn3 := Lib.hid bx3
         clear bx3 ex3
         refine wpAnyH_ready (rs := [11, 18]) (by kernel_rfl) (by simp) ?_; refine AllReadyH.cons rfl (fun K hK => ?_) (AllReadyH.cons rfl (fun K hK => ?_) (AllReadyH.nil))
         focus
          refine step_app_ban rfl (.tmp 45) (.tmp 47) rfl (w.heap.size + 3) _ kp ((bs.take kp).flatMap Ban.cs) rfl rb3.out ⟨w2.heap.size, 0, none⟩ 1 1 b.cs rfl (Ban.len b) (fun j u hj => by rw [Addr.add_mid, Nat.zero_add]; exact own_at rvn3.out hj) HBO.out (by omega) N3.out.lt 48 rfl (kp + 1) rfl (((bs.take kp).flatMap Ban.cs) ++ b.cs) rfl ?_; intro Ap4 cp4 w4 op4 gp4; have N4 := Lib.hid (N3.out.grow gp4 rb3.out); have ri4 := Lib.hid (ri3.out.kept gp4 (own_types ri3.out rb3.out intBan)); have rb4 := Lib.hid op4; clear op4 gp4; refine hK.out _ _ N4.out fun hHeld => ?_; clear hK K; (try simp only [Act.put, setIfInBounds_toArray, set_cons_zero, set_cons_succ])
          refine wpAnyH_ready (rs := [16, 18]) (by kernel_rfl) (by simp) ?_; refine AllReadyH.cons rfl (fun K hK => ?_) (AllReadyH.cons rfl (fun K hK => ?_) (AllReadyH.nil))
          focus
           refine step_app_ban rfl (.tmp 48) (.tmp 52) rfl (w.heap.size + 3) _ (kp + 1) (((bs.take kp).flatMap Ban.cs) ++ b.cs) rfl rb4.out A2 (m - kp) (d - kp) ((bs.drop kp).flatMap Ban.cs) rfl HL2.out (hsrc.out _ N4.out.ext) (bans_one _) (by omega) N4.out.lt 53 rfl (m + 1) hmk ((insB bs b).flatMap Ban.cs) HE.out ?_; intro A9 c9 w5 op5 gp5; have N5 := Lib.hid (N4.out.grow gp5 rb4.out); have ri5 := Lib.hid (ri4.out.kept gp5 (own_types ri4.out rb4.out intBan)); have rb5 := Lib.hid op5; clear op5 gp5; refine hK.out _ _ N5.out fun hHeld => ?_; clear hK K; (try simp only [Act.put, setIfInBounds_toArray, set_cons_zero, set_cons_succ])
           refine wpAnyH_take (i := 17) (v := ?_) rfl (by kernel_rfl) (by kernel_rfl) (by kernel_rfl) (fun _ _ _ h => h) (Or.inl ⟨by rfl, ?_⟩) hHeld ?_; rotate_left 1; (focus (intro w hSw; go_simp; (try with_reducible rfl))); (try simp only [Act.put, setIfInBounds_toArray, set_cons_zero, set_cons_succ])
           have ex6 := (Ext.refl (w5)).alloc (.cells #[.slice none 0 0, .slice none 0 0] 27)
           have N6 := Lib.hid (N5.out.step ex6)
           refine rdy 18 (by kernel_rfl) rfl fun K hK => ?_; go_simp; (try simp only [Act.put, setIfInBounds_toArray, set_cons_zero, set_cons_succ]); (try go_wp2_with fail); refine hK.out _ _ N6.out fun hHeld => ?_; clear hK K; (try simp only [Act.put, setIfInBounds_toArray, set_cons_zero, set_cons_succ])
           have bx6 := own_low' (own_block (w5) 27 [.slice none 0 0, .slice none 0 0]) (Nat.zero_le _)
           have lt6 := N5.out.lt
           (try simp only [World.size_alloc, World.size_drew] at bx6 lt6)
           have ri6 := Lib.hid (ex6.own ri5.out)
           have rb6 := Lib.hid (ex6.own rb5.out)
           have BXn6 := Lib.hid bx6
           clear bx6 ex6
           have BXF := Lib.hid BXn6.out
           have NF := Lib.hid N6.out
           have RBF := Lib.hid rb6.out
           have RIF := Lib.hid ri6.out
           have zx : w.heap.size + 2 < w5.heap.size := lt6
           obtain ⟨xb, hxb⟩ : ∃ xb, w5.heap.size = xb := ⟨_, rfl⟩
           rw [hxb] at BXF zx
           rw [hxb]
           clear hxb
           obtain ⟨wz, hwz⟩ : ∃ wz, (w5.alloc (.cells #[.slice none 0 0, .slice none 0 0] 27)) = wz := ⟨_, rfl⟩
           rw [hwz] at BXF NF RBF RIF
           rw [hwz]
           clear hwz
          rotate_left 1
          focus
           have ex7 := (Ext.refl (w4)).alloc (.cells #[.slice none 0 0, .slice none 0 0] 27)
           have N7 := Lib.hid (N4.out.step ex7)
           go_simp; (try simp only [Act.put, setIfInBounds_toArray, set_cons_zero, set_cons_succ]); (try go_wp2_with fail); refine hK.out _ _ N7.out fun hHeld => ?_; clear hK K; (try simp only [Act.put, setIfInBounds_toArray, set_cons_zero, set_cons_succ])
           have bx7 := own_low' (own_block (w4) 27 [.slice none 0 0, .slice none 0 0]) (Nat.zero_le _)
           have lt7 := N4.out.lt
           (try simp only [World.size_alloc, World.size_drew] at bx7 lt7)
           have ri7 := Lib.hid (ex7.own ri4.out)
           have rb7 := Lib.hid (ex7.own rb4.out)
           have BXn7 := Lib.hid bx7
           clear bx7 ex7
           refine rdy 16 (by kernel_rfl) rfl fun K hK => ?_; refine step_app_ban rfl (.tmp 48) (.tmp 52) rfl (w.heap.size + 3) _ (kp + 1) (((bs.take kp).flatMap Ban.cs) ++ b.cs) rfl rb7.out A2 (m - kp) (d - kp) ((bs.drop kp).flatMap Ban.cs) rfl HL2.out (hsrc.out _ N7.out.ext) (bans_one _) (by omega) N7.out.lt 53 rfl (m + 1) hmk ((insB bs b).flatMap Ban.cs) HE.out ?_; intro A9 c9 w8 op8 gp8; have N8 := Lib.hid (N7.out.grow gp8 rb7.out); have ri8 := Lib.hid (ri7.out.kept gp8 (own_types ri7.out rb7.out intBan)); have BX8 := Lib.hid (BXn7.out.kept gp8 (own_types BXn7.out rb7.out tabBan)); have rb8 := Lib.hid op8; clear op8 gp8; refine hK.out _ _ N8.out fun hHeld => ?_; clear hK K; (try simp only [Act.put, setIfInBounds_toArray, set_cons_zero, set_cons_succ])
           refine wpAnyH_take (i := 17) (v := ?_) rfl (by kernel_rfl) (by kernel_rfl) (by kernel_rfl) (fun _ _ _ h => h) (Or.inl ⟨by rfl, ?_⟩) hHeld ?_; rotate_left 1; (focus (intro w hSw; go_simp; (try with_reducible rfl))); (try simp only [Act.put, setIfInBounds_toArray, set_cons_zero, set_cons_succ])
           have BXF := Lib.hid BX8.out
           have NF := Lib.hid N8.out
           have RBF := Lib.hid rb8.out
           have RIF := Lib.hid ri8.out
           have zx : w.heap.size + 2 < w4.heap.size := lt7
           obtain ⟨xb, hxb⟩ : ∃ xb, w4.heap.size = xb := ⟨_, rfl⟩
           rw [hxb] at BXF zx
           rw [hxb]
           clear hxb
           obtain ⟨wz, hwz⟩ : ∃ wz, w8 = wz := ⟨_, rfl⟩
           rw [hwz] at BXF NF RBF RIF
           rw [hwz]
           clear hwz
          rotate_left 1
         rotate_left 2
         focus
          have ex9 := (Ext.refl ((w2.alloc (.cells #[.int .i64 b.A, .int .i64 b.X, .int .i64 b.B, .int .i64 b.Y] 61)))).alloc (.cells #[.slice none 0 0, .slice none 0 0] 27)
          have N9 := Lib.hid (N3.out.step ex9)
          go_simp; (try simp only [Act.put, setIfInBounds_toArray, set_cons_zero, set_cons_succ]); (try go_wp2_with fail); refine hK.out _ _ N9.out fun hHeld => ?_; clear hK K; (try simp only [Act.put, setIfInBounds_toArray, set_cons_zero, set_cons_succ])
          have bx9 := own_low' (own_block ((w2.alloc (.cells #[.int .i64 b.A, .int .i64 b.X, .int .i64 b.B, .int .i64 b.Y] 61))) 27 [.slice none 0 0, .slice none 0 0]) (Nat.zero_le _)
          have lt9 := N3.out.lt
          (try simp only [World.size_alloc, World.size_drew] at bx9 lt9)
          have ri9 := Lib.hid (ex9.own ri3.out)
          have rb9 := Lib.hid (ex9.own rb3.out)
          have rv9 := Lib.hid (ex9.own rvn3.out)
          have BXn9 := Lib.hid bx9
          clear bx9 ex9
          refine rdy 11 (by kernel_rfl) rfl fun K hK => ?_; refine step_app_ban rfl (.tmp 45) (.tmp 47) rfl (w.heap.size + 3) _ kp ((bs.take kp).flatMap Ban.cs) rfl rb9.out ⟨w2.heap.size, 0, none⟩ 1 1 b.cs rfl (Ban.len b) (fun j u hj => by rw [Addr.add_mid, Nat.zero_add]; exact own_at rv9.out hj) HBO.out (by omega) N9.out.lt 48 rfl (kp + 1) rfl (((bs.take kp).flatMap Ban.cs) ++ b.cs) rfl ?_; intro Ap10 cp10 w10 op10 gp10; have N10 := Lib.hid (N9.out.grow gp10 rb9.out); have ri10 := Lib.hid (ri9.out.kept gp10 (own_types ri9.out rb9.out intBan)); have BX10 := Lib.hid (BXn9.out.kept gp10 (own_types BXn9.out rb9.out tabBan)); have rb10 := Lib.hid op10; clear op10 gp10; refine hK.out _ _ N10.out fun hHeld => ?_; clear hK K; (try simp only [Act.put, setIfInBounds_toArray, set_cons_zero, set_cons_succ])
          refine rdy 16 (by kernel_rfl) rfl fun K hK => ?_; refine step_app_ban rfl (.tmp 48) (.tmp 52) rfl (w.heap.size + 3) _ (kp + 1) (((bs.take kp).flatMap Ban.cs) ++ b.cs) rfl rb10.out A2 (m - kp) (d - kp) ((bs.drop kp).flatMap Ban.cs) rfl HL2.out (hsrc.out _ N10.out.ext) (bans_one _) (by omega) N10.out.lt 53 rfl (m + 1) hmk ((insB bs b).flatMap Ban.cs) HE.out ?_; intro A9 c9 w11 op11 gp11; have N11 := Lib.hid (N10.out.grow gp11 rb10.out); have ri11 := Lib.hid (ri10.out.kept gp11 (own_types ri10.out rb10.out intBan)); have BX11 := Lib.hid (BX10.out.kept gp11 (own_types BX10.out rb10.out tabBan)); have rb11 := Lib.hid op11; clear op11 gp11; refine hK.out _ _ N11.out fun hHeld => ?_; clear hK K; (try simp only [Act.put, setIfInBounds_toArray, set_cons_zero, set_cons_succ])
          refine wpAnyH_take (i := 17) (v := ?_) rfl (by kernel_rfl) (by kernel_rfl) (by kernel_rfl) (fun _ _ _ h => h) (Or.inl ⟨by rfl, ?_⟩) hHeld ?_; rotate_left 1; (focus (intro w hSw; go_simp; (try with_reducible rfl))); (try simp only [Act.put, setIfInBounds_toArray, set_cons_zero, set_cons_succ])
          have BXF := Lib.hid BX11.out
          have NF := Lib.hid N11.out
          have RBF := Lib.hid rb11.out
          have RIF := Lib.hid ri11.out
          have zx : w.heap.size + 2 < (w2.heap.size + 1) := lt9
          obtain ⟨xb, hxb⟩ : ∃ xb, (w2.heap.size + 1) = xb := ⟨_, rfl⟩
          rw [hxb] at BXF zx
          rw [hxb]
          clear hxb
          obtain ⟨wz, hwz⟩ : ∃ wz, w11 = wz := ⟨_, rfl⟩
          rw [hwz] at BXF NF RBF RIF
          rw [hwz]
          clear hwz
         rotate_left 1
        rotate_left 3
        focus
         have ex12 := (Ext.refl (w2)).alloc (.cells #[.slice none 0 0, .slice none 0 0] 27)
         have N12 := Lib.hid (N2.out.step ex12)
         go_simp; (try simp only [Act.put, setIfInBounds_toArray, set_cons_zero, set_cons_succ]); (try go_wp2_with fail); refine hK.out _ _ N12.out fun hHeld => ?_; clear hK K; (try simp only [Act.put, setIfInBounds_toArray, set_cons_zero, set_cons_succ])
         have bx12 := own_low' (own_block (w2) 27 [.slice none 0 0, .slice none 0 0]) (Nat.zero_le _)
         have lt12 := N2.out.lt
         (try simp only [World.size_alloc, World.size_drew] at bx12 lt12)
         have ri12 := Lib.hid (ex12.own ri2.out)
         have rb12 := Lib.hid (ex12.own rb2.out)
         have BXn12 := Lib.hid bx12
         clear bx12 ex12
         have NE := Lib.hid (show ∀ k, Value.ownBlock (.slice Ap2 kp cp2) = some k → k ≠ (w2.heap.size + 1) from fun k hk => by have hh := (rb12.out.lt k hk).2; (try simp only [World.size_alloc, World.size_drew] at hh); omega)
         have ex13 := (Ext.refl ((w2.alloc (.cells #[.slice none 0 0, .slice none 0 0] 27)))).alloc (.cells #[.int .i64 b.A, .int .i64 b.X, .int .i64 b.B, .int .i64 b.Y] 61)
         have N13 := Lib.hid (N12.out.step ex13)
         refine rdy 10 (by kernel_rfl) rfl fun K hK => ?_; go_simp; (try simp only [Act.put, setIfInBounds_toArray, set_cons_zero, set_cons_succ]); (try go_wp2_with fail); refine hK.out _ _ N13.out fun hHeld => ?_; clear hK K; (try simp only [Act.put, setIfInBounds_toArray, set_cons_zero, set_cons_succ])
         have bx13 := own_low' (own_block ((w2.alloc (.cells #[.slice none 0 0, .slice none 0 0] 27))) 61 [.int .i64 b.A, .int .i64 b.X, .int .i64 b.B, .int .i64 b.Y]) (Nat.zero_le _)
         have lt13 := N12.out.lt
         (try simp only [World.size_alloc, World.size_drew] at bx13 lt13)
         have ri13 := Lib.hid (ex13.own ri12.out)
         have rb13 := Lib.hid (ex13.own rb12.out)
         have BX13 := Lib.hid (ex13.own BXn12.out)
         have rvn13 := Lib.hid bx13
         clear bx13 ex13
         refine rdy 11 (by kernel_rfl) rfl fun K hK => ?_; refine step_app_ban rfl (.tmp 45) (.tmp 47) rfl (w.heap.size + 3) _ kp ((bs.take kp).flatMap Ban.cs) rfl rb13.out ⟨(w2.heap.size + 1), 0, none⟩ 1 1 b.cs rfl (Ban.len b) (fun j u hj => by rw [Addr.add_mid, Nat.zero_add]; exact own_at rvn13.out hj) HBO.out (by omega) N13.out.lt 48 rfl (kp + 1) rfl (((bs.take kp).flatMap Ban.cs) ++ b.cs) rfl ?_; intro Ap14 cp14 w14 op14 gp14; have N14 := Lib.hid (N13.out.grow gp14 rb13.out); have ri14 := Lib.hid (ri13.out.kept gp14 (own_types ri13.out rb13.out intBan)); have BX14 := Lib.hid (BX13.out.kept gp14 (own_types BX13.out rb13.out tabBan)); have rb14 := Lib.hid op14; clear op14 gp14; refine hK.out _ _ N14.out fun hHeld => ?_; clear hK K; (try simp only [Act.put, setIfInBounds_toArray, set_cons_zero, set_cons_succ])
         refine rdy 16 (by kernel_rfl) rfl fun K hK => ?_; refine step_app_ban rfl (.tmp 48) (.tmp 52) rfl (w.heap.size + 3) _ (kp + 1) (((bs.take kp).flatMap Ban.cs) ++ b.cs) rfl rb14.out A2 (m - kp) (d - kp) ((bs.drop kp).flatMap Ban.cs) rfl HL2.out (hsrc.out _ N14.out.ext) (bans_one _) (by omega) N14.out.lt 53 rfl (m + 1) hmk ((insB bs b).flatMap Ban.cs) HE.out ?_; intro A9 c9 w15 op15 gp15; have N15 := Lib.hid (N14.out.grow gp15 rb14.out); have ri15 := Lib.hid (ri14.out.kept gp15 (own_types ri14.out rb14.out intBan)); have BX15 := Lib.hid (BX14.out.kept gp15 (own_types BX14.out rb14.out tabBan)); have rb15 := Lib.hid op15; clear op15 gp15; refine hK.out _ _ N15.out fun hHeld => ?_; clear hK K; (try simp only [Act.put, setIfInBounds_toArray, set_cons_zero, set_cons_succ])
         refine wpAnyH_take (i := 17) (v := ?_) rfl (by kernel_rfl) (by kernel_rfl) (by kernel_rfl) (fun _ _ _ h => h) (Or.inl ⟨by rfl, ?_⟩) hHeld ?_; rotate_left 1; (focus (intro w hSw; go_simp; (try with_reducible rfl))); (try simp only [Act.put, setIfInBounds_toArray, set_cons_zero, set_cons_succ])
         have BXF := Lib.hid BX15.out
         have NF := Lib.hid N15.out
         have RBF := Lib.hid rb15.out
         have RIF := Lib.hid ri15.out
         have zx : w.heap.size + 2 < w2.heap.size := lt12
         obtain ⟨xb, hxb⟩ : ∃ xb, w2.heap.size = xb := ⟨_, rfl⟩
         rw [hxb] at BXF zx
         rw [hxb]
         clear hxb
         obtain ⟨wz, hwz⟩ : ∃ wz, w15 = wz := ⟨_, rfl⟩
         rw [hwz] at BXF NF RBF RIF
         rw [hwz]
         clear hwz
        rotate_left 1
       rotate_left 4
       focus
        have NE := Lib.hid (show ∀ k, Value.ownBlock (.slice (some ⟨w0.heap.size, 0, none⟩) 0 0) = some k → k ≠ (w0.heap.size + 1) from fun k hk => by have hh := (rbn1.out.lt k hk).2; (try simp only [World.size_alloc, World.size_drew] at hh); omega)
        have ex16 := (Ext.refl ((w0.alloc (.cells #[] 61)))).alloc (.cells #[.int .i64 b.A, .int .i64 b.X, .int .i64 b.B, .int .i64 b.Y] 61)
        have N16 := Lib.hid (N1.out.step ex16)
        go_simp; (try simp only [Act.put, setIfInBounds_toArray, set_cons_zero, set_cons_succ]); (try go_wp2_with fail); refine hK.out _ _ N16.out fun hHeld => ?_; clear hK K; (try simp only [Act.put, setIfInBounds_toArray, set_cons_zero, set_cons_succ])
        have bx16 := own_low' (own_block ((w0.alloc (.cells #[] 61))) 61 [.int .i64 b.A, .int .i64 b.X, .int .i64 b.B, .int .i64 b.Y]) (Nat.zero_le _)
        have lt16 := N1.out.lt
        (try simp only [World.size_alloc, World.size_drew] at bx16 lt16)
        have ri16 := Lib.hid (ex16.own ri1.out)
        have rb16 := Lib.hid (ex16.own rbn1.out)
        have rvn16 := Lib.hid bx16
        clear bx16 ex16
        refine wpAnyH_ready (rs := [8, 18]) (by kernel_rfl) (by simp) ?_; refine AllReadyH.cons rfl (fun K hK => ?_) (AllReadyH.cons rfl (fun K hK => ?_) (AllReadyH.nil))
        focus
         refine step_app_ban rfl (.tmp 40) (.tmp 44) rfl (w.heap.size + 3) _ 0 [] rfl rb16.out ⟨bb, off, none⟩ kp d ((bs.take kp).flatMap Ban.cs) rfl HL1.out (HS1.out _ N16.out.ext) (bans_one _) (by omega) N16.out.lt 45 rfl kp (Nat.zero_add kp) ((bs.take kp).flatMap Ban.cs) (List.nil_append _) ?_; intro Ap17 cp17 w17 op17 gp17; have N17 := Lib.hid (N16.out.grow gp17 rb16.out); have ri17 := Lib.hid (ri16.out.kept gp17 (own_types ri16.out rb16.out intBan)); have rv17 := Lib.hid (rvn16.out.kept gp17 (Or.inr (fun e => NE.out _ e.symm rfl))); have rb17 := Lib.hid op17; clear op17 gp17; refine hK.out _ _ N17.out fun hHeld => ?_; clear hK K; (try simp only [Act.put, setIfInBounds_toArray, set_cons_zero, set_cons_succ])
         refine wpAnyH_ready (rs := [11, 18]) (by kernel_rfl) (by simp) ?_; refine AllReadyH.cons rfl (fun K hK => ?_) (AllReadyH.cons rfl (fun K hK => ?_) (AllReadyH.nil))
         focus
          refine step_app_ban rfl (.tmp 45) (.tmp 47) rfl (w.heap.size + 3) _ kp ((bs.take kp).flatMap Ban.cs) rfl rb17.out ⟨(w0.heap.size + 1), 0, none⟩ 1 1 b.cs rfl (Ban.len b) (fun j u hj => by rw [Addr.add_mid, Nat.zero_add]; exact own_at rv17.out hj) HBO.out (by omega) N17.out.lt 48 rfl (kp + 1) rfl (((bs.take kp).flatMap Ban.cs) ++ b.cs) rfl ?_; intro Ap18 cp18 w18 op18 gp18; have N18 := Lib.hid (N17.out.grow gp18 rb17.out); have ri18 := Lib.hid (ri17.out.kept gp18 (own_types ri17.out rb17.out intBan)); have rb18 := Lib.hid op18; clear op18 gp18; refine hK.out _ _ N18.out fun hHeld => ?_; clear hK K; (try simp only [Act.put, setIfInBounds_toArray, set_cons_zero, set_cons_succ])
          refine wpAnyH_ready (rs := [16, 18]) (by kernel_rfl) (by simp) ?_; refine AllReadyH.cons rfl (fun K hK => ?_) (AllReadyH.cons rfl (fun K hK => ?_) (AllReadyH.nil))
          focus
           refine step_app_ban rfl (.tmp 48) (.tmp 52) rfl (w.heap.size + 3) _ (kp + 1) (((bs.take kp).flatMap Ban.cs) ++ b.cs) rfl rb18.out A2 (m - kp) (d - kp) ((bs.drop kp).flatMap Ban.cs) rfl HL2.out (hsrc.out _ N18.out.ext) (bans_one _) (by omega) N18.out.lt 53 rfl (m + 1) hmk ((insB bs b).flatMap Ban.cs) HE.out ?_; intro A9 c9 w19 op19 gp19; have N19 := Lib.hid (N18.out.grow gp19 rb18.out); have ri19 := Lib.hid (ri18.out.kept gp19 (own_types ri18.out rb18.out intBan)); have rb19 := Lib.hid op19; clear op19 gp19; refine hK.out _ _ N19.out fun hHeld => ?_; clear hK K; (try simp only [Act.put, setIfInBounds_toArray, set_cons_zero, set_cons_succ])
           refine wpAnyH_take (i := 17) (v := ?_) rfl (by kernel_rfl) (by kernel_rfl) (by kernel_rfl) (fun _ _ _ h => h) (Or.inl ⟨by rfl, ?_⟩) hHeld ?_; rotate_left 1; (focus (intro w hSw; go_simp; (try with_reducible rfl))); (try simp only [Act.put, setIfInBounds_toArray, set_cons_zero, set_cons_succ])
           have ex20 := (Ext.refl (w19)).alloc (.cells #[.slice none 0 0, .slice none 0 0] 27)
           have N20 := Lib.hid (N19.out.step ex20)
           refine rdy 18 (by kernel_rfl) rfl fun K hK => ?_; go_simp; (try simp only [Act.put, setIfInBounds_toArray, set_cons_zero, set_cons_succ]); (try go_wp2_with fail); refine hK.out _ _ N20.out fun hHeld => ?_; clear hK K; (try simp only [Act.put, setIfInBounds_toArray, set_cons_zero, set_cons_succ])
           have bx20 := own_low' (own_block (w19) 27 [.slice none 0 0, .slice none 0 0]) (Nat.zero_le _)
           have lt20 := N19.out.lt
           (try simp only [World.size_alloc, World.size_drew] at bx20 lt20)
           have ri20 := Lib.hid (ex20.own ri19.out)
           have rb20 := Lib.hid (ex20.own rb19.out)
           have BXn20 := Lib.hid bx20
           clear bx20 ex20
           have BXF := Lib.hid BXn20.out
           have NF := Lib.hid N20.out
           have RBF := Lib.hid rb20.out
           have RIF := Lib.hid ri20.out
           have zx : w.heap.size + 2 < w19.heap.size := lt20
           obtain ⟨xb, hxb⟩ : ∃ xb, w19.heap.size = xb := ⟨_, rfl⟩
           rw [hxb] at BXF zx
           rw [hxb]
           clear hxb
           obtain ⟨wz, hwz⟩ : ∃ wz, (w19.alloc (.cells #[.slice none 0 0, .slice none 0 0] 27)) = wz := ⟨_, rfl⟩
           rw [hwz] at BXF NF RBF RIF
           rw [hwz]
           clear hwz
          rotate_left 1
          focus
           have ex21 := (Ext.refl (w18)).alloc (.cells #[.slice none 0 0, .slice none 0 0] 27)
           have N21 := Lib.hid (N18.out.step ex21)
           go_simp; (try simp only [Act.put, setIfInBounds_toArray, set_cons_zero, set_cons_succ]); (try go_wp2_with fail); refine hK.out _ _ N21.out fun hHeld => ?_; clear hK K; (try simp only [Act.put, setIfInBounds_toArray, set_cons_zero, set_cons_succ])
           have bx21 := own_low' (own_block (w18) 27 [.slice none 0 0, .slice none 0 0]) (Nat.zero_le _)
           have lt21 := N18.out.lt
           (try simp only [World.size_alloc, World.size_drew] at bx21 lt21)
           have ri21 := Lib.hid (ex21.own ri18.out)
           have rb21 := Lib.hid (ex21.own rb18.out)
           have BXn21 := Lib.hid bx21
           clear bx21 ex21
           refine rdy 16 (by kernel_rfl) rfl fun K hK => ?_; refine step_app_ban rfl (.tmp 48) (.tmp 52) rfl (w.heap.size + 3) _ (kp + 1) (((bs.take kp).flatMap Ban.cs) ++ b.cs) rfl rb21.out A2 (m - kp) (d - kp) ((bs.drop kp).flatMap Ban.cs) rfl HL2.out (hsrc.out _ N21.out.ext) (bans_one _) (by omega) N21.out.lt 53 rfl (m + 1) hmk ((insB bs b).flatMap Ban.cs) HE.out ?_; intro A9 c9 w22 op22 gp22; have N22 := Lib.hid (N21.out.grow gp22 rb21.out); have ri22 := Lib.hid (ri21.out.kept gp22 (own_types ri21.out rb21.out intBan)); have BX22 := Lib.hid (BXn21.out.kept gp22 (own_types BXn21.out rb21.out tabBan)); have rb22 := Lib.hid op22; clear op22 gp22; refine hK.out _ _ N22.out fun hHeld => ?_; clear hK K; (try simp only [Act.put, setIfInBounds_toArray, set_cons_zero, set_cons_succ])
           refine wpAnyH_take (i := 17) (v := ?_) rfl (by kernel_rfl) (by kernel_rfl) (by kernel_rfl) (fun _ _ _ h => h) (Or.inl ⟨by rfl, ?_⟩) hHeld ?_; rotate_left 1; (focus (intro w hSw; go_simp; (try with_reducible rfl))); (try simp only [Act.put, setIfInBounds_toArray, set_cons_zero, set_cons_succ])
           have BXF := Lib.hid BX22.out
           have NF := Lib.hid N22.out
           have RBF := Lib.hid rb22.out
           have RIF := Lib.hid ri22.out
           have zx : w.heap.size + 2 < w18.heap.size := lt21
           obtain ⟨xb, hxb⟩ : ∃ xb, w18.heap.size = xb := ⟨_, rfl⟩
           rw [hxb] at BXF zx
           rw [hxb]
           clear hxb
           obtain ⟨wz, hwz⟩ : ∃ wz, w22 = wz := ⟨_, rfl⟩
           rw [hwz] at BXF NF RBF RIF
           rw [hwz]
           clear hwz
          rotate_left 1
         rotate_left 2
         focus
          have ex23 := (Ext.refl (w17)).alloc (.cells #[.slice none 0 0, .slice none 0 0] 27)
          have N23 := Lib.hid (N17.out.step ex23)
          go_simp; (try simp only [Act.put, setIfInBounds_toArray, set_cons_zero, set_cons_succ]); (try go_wp2_with fail); refine hK.out _ _ N23.out fun hHeld => ?_; clear hK K; (try simp only [Act.put, setIfInBounds_toArray, set_cons_zero, set_cons_succ])
          have bx23 := own_low' (own_block (w17) 27 [.slice none 0 0, .slice none 0 0]) (Nat.zero_le _)
          have lt23 := N17.out.lt
          (try simp only [World.size_alloc, World.size_drew] at bx23 lt23)
          have ri23 := Lib.hid (ex23.own ri17.out)
          have rb23 := Lib.hid (ex23.own rb17.out)
          have rv23 := Lib.hid (ex23.own rv17.out)
          have BXn23 := Lib.hid bx23
          clear bx23 ex23
          refine rdy 11 (by kernel_rfl) rfl fun K hK => ?_; refine step_app_ban rfl (.tmp 45) (.tmp 47) rfl (w.heap.size + 3) _ kp ((bs.take kp).flatMap Ban.cs) rfl rb23.out ⟨(w0.heap.size + 1), 0, none⟩ 1 1 b.cs rfl (Ban.len b) (fun j u hj => by rw [Addr.add_mid, Nat.zero_add]; exact own_at rv23.out hj) HBO.out (by omega) N23.out.lt 48 rfl (kp + 1) rfl (((bs.take kp).flatMap Ban.cs) ++ b.cs) rfl ?_; intro Ap24 cp24 w24 op24 gp24; have N24 := Lib.hid (N23.out.grow gp24 rb23.out); have ri24 := Lib.hid (ri23.out.kept gp24 (own_types ri23.out rb23.out intBan)); have BX24 := Lib.hid (BXn23.out.kept gp24 (own_types BXn23.out rb23.out tabBan)); have rb24 := Lib.hid op24; clear op24 gp24; refine hK.out _ _ N24.out fun hHeld => ?_; clear hK K; (try simp only [Act.put, setIfInBounds_toArray, set_cons_zero, set_cons_succ])
          refine rdy 16 (by kernel_rfl) rfl fun K hK => ?_; refine step_app_ban rfl (.tmp 48) (.tmp 52) rfl (w.heap.size + 3) _ (kp + 1) (((bs.take kp).flatMap Ban.cs) ++ b.cs) rfl rb24.out A2 (m - kp) (d - kp) ((bs.drop kp).flatMap Ban.cs) rfl HL2.out (hsrc.out _ N24.out.ext) (bans_one _) (by omega) N24.out.lt 53 rfl (m + 1) hmk ((insB bs b).flatMap Ban.cs) HE.out ?_; intro A9 c9 w25 op25 gp25; have N25 := Lib.hid (N24.out.grow gp25 rb24.out); have ri25 := Lib.hid (ri24.out.kept gp25 (own_types ri24.out rb24.out intBan)); have BX25 := Lib.hid (BX24.out.kept gp25 (own_types BX24.out rb24.out tabBan)); have rb25 := Lib.hid op25; clear op25 gp25; refine hK.out _ _ N25.out fun hHeld => ?_; clear hK K; (try simp only [Act.put, setIfInBounds_toArray, set_cons_zero, set_cons_succ])
          refine wpAnyH_take (i := 17) (v := ?_) rfl (by kernel_rfl) (by kernel_rfl) (by kernel_rfl) (fun _ _ _ h => h) (Or.inl ⟨by rfl, ?_⟩) hHeld ?_; rotate_left 1; (focus (intro w hSw; go_simp; (try with_reducible rfl))); (try simp only [Act.put, setIfInBounds_toArray, set_cons_zero, set_cons_succ])
          have BXF := Lib.hid BX25.out
          have NF := Lib.hid N25.out
          have RBF := Lib.hid rb25.out
          have RIF := Lib.hid ri25.out
          have zx : w.heap.size + 2 < w17.heap.size := lt23
          obtain ⟨xb, hxb⟩ : ∃ xb, w17.heap.size = xb := ⟨_, rfl⟩
          rw [hxb] at BXF zx
          rw [hxb]
          clear hxb
          obtain ⟨wz, hwz⟩ : ∃ wz, w25 = wz := ⟨_, rfl⟩
          rw [hwz] at BXF NF RBF RIF
          rw [hwz]
          clear hwz
         rotate_left 1
        rotate_left 3
        focus
         have ex26 := (Ext.refl (((w0.alloc (.cells #[] 61)).alloc (.cells #[.int .i64 b.A, .int .i64 b.X, .int .i64 b.B, .int .i64 b.Y] 61)))).alloc (.cells #[.slice none 0 0, .slice none 0 0] 27)
         have N26 := Lib.hid (N16.out.step ex26)
         go_simp; (try simp only [Act.put, setIfInBounds_toArray, set_cons_zero, set_cons_succ]); (try go_wp2_with fail); refine hK.out _ _ N26.out fun hHeld => ?_; clear hK K; (try simp only [Act.put, setIfInBounds_toArray, set_cons_zero, set_cons_succ])
         have bx26 := own_low' (own_block (((w0.alloc (.cells #[] 61)).alloc (.cells #[.int .i64 b.A, .int .i64 b.X, .int .i64 b.B, .int .i64 b.Y] 61))) 27 [.slice none 0 0, .slice none 0 0]) (Nat.zero_le _)
         have lt26 := N16.out.lt
         (try simp only [World.size_alloc, World.size_drew] at bx26 lt26)
         have ri26 := Lib.hid (ex26.own ri16.out)
         have rb26 := Lib.hid (ex26.own rb16.out)
         have rv26 := Lib.hid (ex26.own rvn16.out)
         have BXn26 := Lib.hid bx26
         clear bx26 ex26
         refine rdy 8 (by kernel_rfl) rfl fun K hK => ?_; refine step_app_ban rfl (.tmp 40) (.tmp 44) rfl (w.heap.size + 3) _ 0 [] rfl rb26.out ⟨bb, off, none⟩ kp d ((bs.take kp).flatMap Ban.cs) rfl HL1.out (HS1.out _ N26.out.ext) (bans_one _) (by omega) N26.out.lt 45 rfl kp (Nat.zero_add kp) ((bs.take kp).flatMap Ban.cs) (List.nil_append _) ?_; intro Ap27 cp27 w27 op27 gp27; have N27 := Lib.hid (N26.out.grow gp27 rb26.out); have ri27 := Lib.hid (ri26.out.kept gp27 (own_types ri26.out rb26.out intBan)); have rv27 := Lib.hid (rv26.out.kept gp27 (Or.inr (fun e => NE.out _ e.symm rfl))); have BX27 := Lib.hid (BXn26.out.kept gp27 (own_types BXn26.out rb26.out tabBan)); have rb27 := Lib.hid op27; clear op27 gp27; refine hK.out _ _ N27.out fun hHeld => ?_; clear hK K; (try simp only [Act.put, setIfInBounds_toArray, set_cons_zero, set_cons_succ])
         refine rdy 11 (by kernel_rfl) rfl fun K hK => ?_; refine step_app_ban rfl (.tmp 45) (.tmp 47) rfl (w.heap.size + 3) _ kp ((bs.take kp).flatMap Ban.cs) rfl rb27.out ⟨(w0.heap.size + 1), 0, none⟩ 1 1 b.cs rfl (Ban.len b) (fun j u hj => by rw [Addr.add_mid, Nat.zero_add]; exact own_at rv27.out hj) HBO.out (by omega) N27.out.lt 48 rfl (kp + 1) rfl (((bs.take kp).flatMap Ban.cs) ++ b.cs) rfl ?_; intro Ap28 cp28 w28 op28 gp28; have N28 := Lib.hid (N27.out.grow gp28 rb27.out); have ri28 := Lib.hid (ri27.out.kept gp28 (own_types ri27.out rb27.out intBan)); have BX28 := Lib.hid (BX27.out.kept gp28 (own_types BX27.out rb27.out tabBan)); have rb28 := Lib.hid op28; clear op28 gp28; refine hK.out _ _ N28.out fun hHeld => ?_; clear hK K; (try simp only [Act.put, setIfInBounds_toArray, set_cons_zero, set_cons_succ])
         refine rdy 16 (by kernel_rfl) rfl fun K hK => ?_; refine step_app_ban rfl (.tmp 48) (.tmp 52) rfl (w.heap.size + 3) _ (kp + 1) (((bs.take kp).flatMap Ban.cs) ++ b.cs) rfl rb28.out A2 (m - kp) (d - kp) ((bs.drop kp).flatMap Ban.cs) rfl HL2.out (hsrc.out _ N28.out.ext) (bans_one _) (by omega) N28.out.lt 53 rfl (m + 1) hmk ((insB bs b).flatMap Ban.cs) HE.out ?_; intro A9 c9 w29 op29 gp29; have N29 := Lib.hid (N28.out.grow gp29 rb28.out); have ri29 := Lib.hid (ri28.out.kept gp29 (own_types ri28.out rb28.out intBan)); have BX29 := Lib.hid (BX28.out.kept gp29 (own_types BX28.out rb28.out tabBan)); have rb29 := Lib.hid op29; clear op29 gp29; refine hK.out _ _ N29.out fun hHeld => ?_; clear hK K; (try simp only [Act.put, setIfInBounds_toArray, set_cons_zero, set_cons_succ])
         refine wpAnyH_take (i := 17) (v := ?_) rfl (by kernel_rfl) (by kernel_rfl) (by kernel_rfl) (fun _ _ _ h => h) (Or.inl ⟨by rfl, ?_⟩) hHeld ?_; rotate_left 1; (focus (intro w hSw; go_simp; (try with_reducible rfl))); (try simp only [Act.put, setIfInBounds_toArray, set_cons_zero, set_cons_succ])
         have BXF := Lib.hid BX29.out
         have NF := Lib.hid N29.out
         have RBF := Lib.hid rb29.out
         have RIF := Lib.hid ri29.out
         have zx : w.heap.size + 2 < ((w0.heap.size + 1) + 1) := lt26
         obtain ⟨xb, hxb⟩ : ∃ xb, ((w0.heap.size + 1) + 1) = xb := ⟨_, rfl⟩
         rw [hxb] at BXF zx
         rw [hxb]
         clear hxb
         obtain ⟨wz, hwz⟩ : ∃ wz, w29 = wz := ⟨_, rfl⟩
         rw [hwz] at BXF NF RBF RIF
         rw [hwz]
         clear hwz
        rotate_left 1
       rotate_left 4
       focus
        have ex30 := (Ext.refl ((w0.alloc (.cells #[] 61)))).alloc (.cells #[.slice none 0 0, .slice none 0 0] 27)
        have N30 := Lib.hid (N1.out.step ex30)
        go_simp; (try simp only [Act.put, setIfInBounds_toArray, set_cons_zero, set_cons_succ]); (try go_wp2_with fail); refine hK.out _ _ N30.out fun hHeld => ?_; clear hK K; (try simp only [Act.put, setIfInBounds_toArray, set_cons_zero, set_cons_succ])
        have bx30 := own_low' (own_block ((w0.alloc (.cells #[] 61))) 27 [.slice none 0 0, .slice none 0 0]) (Nat.zero_le _)
        have lt30 := N1.out.lt
        (try simp only [World.size_alloc, World.size_drew] at bx30 lt30)
        have ri30 := Lib.hid (ex30.own ri1.out)
        have rb30 := Lib.hid (ex30.own rbn1.out)
        have BXn30 := Lib.hid bx30
        clear bx30 ex30
        refine wpAnyH_ready (rs := [8, 10]) (by kernel_rfl) (by simp) ?_; refine AllReadyH.cons rfl (fun K hK => ?_) (AllReadyH.cons rfl (fun K hK => ?_) (AllReadyH.nil))
        focus
         refine step_app_ban rfl (.tmp 40) (.tmp 44) rfl (w.heap.size + 3) _ 0 [] rfl rb30.out ⟨bb, off, none⟩ kp d ((bs.take kp).flatMap Ban.cs) rfl HL1.out (HS1.out _ N30.out.ext) (bans_one _) (by omega) N30.out.lt 45 rfl kp (Nat.zero_add kp) ((bs.take kp).flatMap Ban.cs) (List.nil_append _) ?_; intro Ap31 cp31 w31 op31 gp31; have N31 := Lib.hid (N30.out.grow gp31 rb30.out); have ri31 := Lib.hid (ri30.out.kept gp31 (own_types ri30.out rb30.out intBan)); have BX31 := Lib.hid (BXn30.out.kept gp31 (own_types BXn30.out rb30.out tabBan)); have rb31 := Lib.hid op31; clear op31 gp31; refine hK.out _ _ N31.out fun hHeld => ?_; clear hK K; (try simp only [Act.put, setIfInBounds_toArray, set_cons_zero, set_cons_succ])
         have NE := Lib.hid (show ∀ k, Value.ownBlock (.slice Ap31 kp cp31) = some k → k ≠ w31.heap.size from fun k hk => by have hh := (rb31.out.lt k hk).2; (try simp only [World.size_alloc, World.size_drew] at hh); omega)
         have ex32 := (Ext.refl (w31)).alloc (.cells #[.int .i64 b.A, .int .i64 b.X, .int .i64 b.B, .int .i64 b.Y] 61)
         have N32 := Lib.hid (N31.out.step ex32)
         refine rdy 10 (by kernel_rfl) rfl fun K hK => ?_; go_simp; (try simp only [Act.put, setIfInBounds_toArray, set_cons_zero, set_cons_succ]); (try go_wp2_with fail); refine hK.out _ _ N32.out fun hHeld => ?_; clear hK K; (try simp only [Act.put, setIfInBounds_toArray, set_cons_zero, set_cons_succ])
         have bx32 := own_low' (own_block (w31) 61 [.int .i64 b.A, .int .i64 b.X, .int .i64 b.B, .int .i64 b.Y]) (Nat.zero_le _)
         have lt32 := N31.out.lt
         (try simp only [World.size_alloc, World.size_drew] at bx32 lt32)
         have ri32 := Lib.hid (ex32.own ri31.out)
         have rb32 := Lib.hid (ex32.own rb31.out)
         have BX32 := Lib.hid (ex32.own BX31.out)
         have rvn32 := Lib.hid bx32
         clear bx32 ex32
         refine rdy 11 (by kernel_rfl) rfl fun K hK => ?_; refine step_app_ban rfl (.tmp 45) (.tmp 47) rfl (w.heap.size + 3) _ kp ((bs.take kp).flatMap Ban.cs) rfl rb32.out ⟨w31.heap.size, 0, none⟩ 1 1 b.cs rfl (Ban.len b) (fun j u hj => by rw [Addr.add_mid, Nat.zero_add]; exact own_at rvn32.out hj) HBO.out (by omega) N32.out.lt 48 rfl (kp + 1) rfl (((bs.take kp).flatMap Ban.cs) ++ b.cs) rfl ?_; intro Ap33 cp33 w33 op33 gp33; have N33 := Lib.hid (N32.out.grow gp33 rb32.out); have ri33 := Lib.hid (ri32.out.kept gp33 (own_types ri32.out rb32.out intBan)); have BX33 := Lib.hid (BX32.out.kept gp33 (own_types BX32.out rb32.out tabBan)); have rb33 := Lib.hid op33; clear op33 gp33; refine hK.out _ _ N33.out fun hHeld => ?_; clear hK K; (try simp only [Act.put, setIfInBounds_toArray, set_cons_zero, set_cons_succ])
         refine rdy 16 (by kernel_rfl) rfl fun K hK => ?_; refine step_app_ban rfl (.tmp 48) (.tmp 52) rfl (w.heap.size + 3) _ (kp + 1) (((bs.take kp).flatMap Ban.cs) ++ b.cs) rfl rb33.out A2 (m - kp) (d - kp) ((bs.drop kp).flatMap Ban.cs) rfl HL2.out (hsrc.out _ N33.out.ext) (bans_one _) (by omega) N33.out.lt 53 rfl (m + 1) hmk ((insB bs b).flatMap Ban.cs) HE.out ?_; intro A9 c9 w34 op34 gp34; have N34 := Lib.hid (N33.out.grow gp34 rb33.out); have ri34 := Lib.hid (ri33.out.kept gp34 (own_types ri33.out rb33.out intBan)); have BX34 := Lib.hid (BX33.out.kept gp34 (own_types BX33.out rb33.out tabBan)); have rb34 := Lib.hid op34; clear op34 gp34; refine hK.out _ _ N34.out fun hHeld => ?_; clear hK K; (try simp only [Act.put, setIfInBounds_toArray, set_cons_zero, set_cons_succ])
         refine wpAnyH_take (i := 17) (v := ?_) rfl (by kernel_rfl) (by kernel_rfl) (by kernel_rfl) (fun _ _ _ h => h) (Or.inl ⟨by rfl, ?_⟩) hHeld ?_; rotate_left 1; (focus (intro w hSw; go_simp; (try with_reducible rfl))); (try simp only [Act.put, setIfInBounds_toArray, set_cons_zero, set_cons_succ])
         have BXF := Lib.hid BX34.out
         have NF := Lib.hid N34.out
         have RBF := Lib.hid rb34.out
         have RIF := Lib.hid ri34.out
         have zx : w.heap.size + 2 < (w0.heap.size + 1) := lt30
         obtain ⟨xb, hxb⟩ : ∃ xb, (w0.heap.size + 1) = xb := ⟨_, rfl⟩
         rw [hxb] at BXF zx
         rw [hxb]
         clear hxb
         obtain ⟨wz, hwz⟩ : ∃ wz, w34 = wz := ⟨_, rfl⟩
         rw [hwz] at BXF NF RBF RIF
         rw [hwz]
         clear hwz
        rotate_left 1
        focus
         have NE := Lib.hid (show ∀ k, Value.ownBlock (.slice (some ⟨w0.heap.size, 0, none⟩) 0 0) = some k → k ≠ ((w0.heap.size + 1) + 1) from fun k hk => by have hh := (rb30.out.lt k hk).2; (try simp only [World.size_alloc, World.size_drew] at hh); omega)
         have ex35 := (Ext.refl (((w0.alloc (.cells #[] 61)).alloc (.cells #[.slice none 0 0, .slice none 0 0] 27)))).alloc (.cells #[.int .i64 b.A, .int .i64 b.X, .int .i64 b.B, .int .i64 b.Y] 61)
         have N35 := Lib.hid (N30.out.step ex35)
         go_simp; (try simp only [Act.put, setIfInBounds_toArray, set_cons_zero, set_cons_succ]); (try go_wp2_with fail); refine hK.out _ _ N35.out fun hHeld => ?_; clear hK K; (try simp only [Act.put, setIfInBounds_toArray, set_cons_zero, set_cons_succ])
         have bx35 := own_low' (own_block (((w0.alloc (.cells #[] 61)).alloc (.cells #[.slice none 0 0, .slice none 0 0] 27))) 61 [.int .i64 b.A, .int .i64 b.X, .int .i64 b.B, .int .i64 b.Y]) (Nat.zero_le _)
         have lt35 := N30.out.lt
         (try simp only [World.size_alloc, World.size_drew] at bx35 lt35)
         have ri35 := Lib.hid (ex35.own ri30.out)
         have rb35 := Lib.hid (ex35.own rb30.out)
         have BX35 := Lib.hid (ex35.own BXn30.out)
         have rvn35 := Lib.hid bx35
         clear bx35 ex35
         refine rdy 8 (by kernel_rfl) rfl fun K hK => ?_; refine step_app_ban rfl (.tmp 40) (.tmp 44) rfl (w.heap.size + 3) _ 0 [] rfl rb35.out ⟨bb, off, none⟩ kp d ((bs.take kp).flatMap Ban.cs) rfl HL1.out (HS1.out _ N35.out.ext) (bans_one _) (by omega) N35.out.lt 45 rfl kp (Nat.zero_add kp) ((bs.take kp).flatMap Ban.cs) (List.nil_append _) ?_; intro Ap36 cp36 w36 op36 gp36; have N36 := Lib.hid (N35.out.grow gp36 rb35.out); have ri36 := Lib.hid (ri35.out.kept gp36 (own_types ri35.out rb35.out intBan)); have BX36 := Lib.hid (BX35.out.kept gp36 (own_types BX35.out rb35.out tabBan)); have rv36 := Lib.hid (rvn35.out.kept gp36 (Or.inr (fun e => NE.out _ e.symm rfl))); have rb36 := Lib.hid op36; clear op36 gp36; refine hK.out _ _ N36.out fun hHeld => ?_; clear hK K; (try simp only [Act.put, setIfInBounds_toArray, set_cons_zero, set_cons_succ])
         refine rdy 11 (by kernel_rfl) rfl fun K hK => ?_; refine step_app_ban rfl (.tmp 45) (.tmp 47) rfl (w.heap.size + 3) _ kp ((bs.take kp).flatMap Ban.cs) rfl rb36.out ⟨((w0.heap.size + 1) + 1), 0, none⟩ 1 1 b.cs rfl (Ban.len b) (fun j u hj => by rw [Addr.add_mid, Nat.zero_add]; exact own_at rv36.out hj) HBO.out (by omega) N36.out.lt 48 rfl (kp + 1) rfl (((bs.take kp).flatMap Ban.cs) ++ b.cs) rfl ?_; intro Ap37 cp37 w37 op37 gp37; have N37 := Lib.hid (N36.out.grow gp37 rb36.out); have ri37 := Lib.hid (ri36.out.kept gp37 (own_types ri36.out rb36.out intBan)); have BX37 := Lib.hid (BX36.out.kept gp37 (own_types BX36.out rb36.out tabBan)); have rb37 := Lib.hid op37; clear op37 gp37; refine hK.out _ _ N37.out fun hHeld => ?_; clear hK K; (try simp only [Act.put, setIfInBounds_toArray, set_cons_zero, set_cons_succ])
         refine rdy 16 (by kernel_rfl) rfl fun K hK => ?_; refine step_app_ban rfl (.tmp 48) (.tmp 52) rfl (w.heap.size + 3) _ (kp + 1) (((bs.take kp).flatMap Ban.cs) ++ b.cs) rfl rb37.out A2 (m - kp) (d - kp) ((bs.drop kp).flatMap Ban.cs) rfl HL2.out (hsrc.out _ N37.out.ext) (bans_one _) (by omega) N37.out.lt 53 rfl (m + 1) hmk ((insB bs b).flatMap Ban.cs) HE.out ?_; intro A9 c9 w38 op38 gp38; have N38 := Lib.hid (N37.out.grow gp38 rb37.out); have ri38 := Lib.hid (ri37.out.kept gp38 (own_types ri37.out rb37.out intBan)); have BX38 := Lib.hid (BX37.out.kept gp38 (own_types BX37.out rb37.out tabBan)); have rb38 := Lib.hid op38; clear op38 gp38; refine hK.out _ _ N38.out fun hHeld => ?_; clear hK K; (try simp only [Act.put, setIfInBounds_toArray, set_cons_zero, set_cons_succ])
         refine wpAnyH_take (i := 17) (v := ?_) rfl (by kernel_rfl) (by kernel_rfl) (by kernel_rfl) (fun _ _ _ h => h) (Or.inl ⟨by rfl, ?_⟩) hHeld ?_; rotate_left 1; (focus (intro w hSw; go_simp; (try with_reducible rfl))); (try simp only [Act.put, setIfInBounds_toArray, set_cons_zero, set_cons_succ])
         have BXF := Lib.hid BX38.out
         have NF := Lib.hid N38.out
         have RBF := Lib.hid rb38.out
         have RIF := Lib.hid ri38.out
         have zx : w.heap.size + 2 < (w0.heap.size + 1) := lt30
         obtain ⟨xb, hxb⟩ : ∃ xb, (w0.heap.size + 1) = xb := ⟨_, rfl⟩
         rw [hxb] at BXF zx
         rw [hxb]
         clear hxb
         obtain ⟨wz, hwz⟩ : ∃ wz, w38 = wz := ⟨_, rfl⟩
         rw [hwz] at BXF NF RBF RIF
         rw [hwz]
         clear hwz
        rotate_left 1
       rotate_left 2
      rotate_left 10
      focus
       have ex39 := (Ext.refl (w0)).alloc (.cells #[.int .i64 b.A, .int .i64 b.X, .int .i64 b.B, .int .i64 b.Y] 61)
       have N39 := Lib.hid (N0.out.step ex39)
       go_simp; (try simp only [Act.put, setIfInBounds_toArray, set_cons_zero, set_cons_succ]); (try go_wp2_with fail); refine hK.out _ _ N39.out fun hHeld => ?_; clear hK K; (try simp only [Act.put, setIfInBounds_toArray, set_cons_zero, set_cons_succ])
       have bx39 := own_low' (own_block (w0) 61 [.int .i64 b.A, .int .i64 b.X, .int .i64 b.B, .int .i64 b.Y]) (Nat.zero_le _)
       have lt39 := N0.out.lt
       (try simp only [World.size_alloc, World.size_drew] at bx39 lt39)
       have ri39 := Lib.hid (ex39.own rin0.out)
       have rvn39 := Lib.hid bx39
       clear bx39 ex39
       refine wpAnyH_ready (rs := [3, 18]) (by kernel_rfl) (by simp) ?_; refine AllReadyH.cons rfl (fun K hK => ?_) (AllReadyH.cons rfl (fun K hK => ?_) (AllReadyH.nil))
       focus
        have ltv40 := (rvn39.out.lt _ rfl).2
        (try simp only [World.size_alloc, World.size_drew] at ltv40)
        have ex40 := (Ext.refl ((w0.alloc (.cells #[.int .i64 b.A, .int .i64 b.X, .int .i64 b.B, .int .i64 b.Y] 61)))).alloc (.cells #[] 61)
        have N40 := Lib.hid (N39.out.step ex40)
        go_simp; (try simp only [Act.put, setIfInBounds_toArray, set_cons_zero, set_cons_succ]); (try go_wp2_with fail); refine hK.out _ _ N40.out fun hHeld => ?_; clear hK K; (try simp only [Act.put, setIfInBounds_toArray, set_cons_zero, set_cons_succ])
        have bx40 := own_empty ((w0.alloc (.cells #[.int .i64 b.A, .int .i64 b.X, .int .i64 b.B, .int .i64 b.Y] 61))) (w.heap.size + 3) 61 4 (show w.heap.size + 3 ≤ _ from N39.out.lt)
        have lt40 := N39.out.lt
        (try simp only [World.size_alloc, World.size_drew] at bx40 lt40)
        have ri40 := Lib.hid (ex40.own ri39.out)
        have rv40 := Lib.hid (ex40.own rvn39.out)
        have rbn40 := Lib.hid bx40
        clear bx40 ex40
        have NE := Lib.hid (show ∀ k, Value.ownBlock (.slice (some ⟨(w0.heap.size + 1), 0, none⟩) 0 0) = some k → k ≠ w0.heap.size from fun k hk => by have h2 : some ((w0.heap.size + 1)) = some k := hk; injection h2 with h2; have h3 := ltv40; omega)
        refine wpAnyH_ready (rs := [8, 18]) (by kernel_rfl) (by simp) ?_; refine AllReadyH.cons rfl (fun K hK => ?_) (AllReadyH.cons rfl (fun K hK => ?_) (AllReadyH.nil))
        focus
         refine step_app_ban rfl (.tmp 40) (.tmp 44) rfl (w.heap.size + 3) _ 0 [] rfl rbn40.out ⟨bb, off, none⟩ kp d ((bs.take kp).flatMap Ban.cs) rfl HL1.out (HS1.out _ N40.out.ext) (bans_one _) (by omega) N40.out.lt 45 rfl kp (Nat.zero_add kp) ((bs.take kp).flatMap Ban.cs) (List.nil_append _) ?_; intro Ap41 cp41 w41 op41 gp41; have N41 := Lib.hid (N40.out.grow gp41 rbn40.out); have ri41 := Lib.hid (ri40.out.kept gp41 (own_types ri40.out rbn40.out intBan)); have rv41 := Lib.hid (rv40.out.kept gp41 (Or.inr (fun e => NE.out _ e.symm rfl))); have rb41 := Lib.hid op41; clear op41 gp41; refine hK.out _ _ N41.out fun hHeld => ?_; clear hK K; (try simp only [Act.put, setIfInBounds_toArray, set_cons_zero, set_cons_succ])
         refine wpAnyH_ready (rs := [11, 18]) (by kernel_rfl) (by simp) ?_; refine AllReadyH.cons rfl (fun K hK => ?_) (AllReadyH.cons rfl (fun K hK => ?_) (AllReadyH.nil))
         focus
          refine step_app_ban rfl (.tmp 45) (.tmp 47) rfl (w.heap.size + 3) _ kp ((bs.take kp).flatMap Ban.cs) rfl rb41.out ⟨w0.heap.size, 0, none⟩ 1 1 b.cs rfl (Ban.len b) (fun j u hj => by rw [Addr.add_mid, Nat.zero_add]; exact own_at rv41.out hj) HBO.out (by omega) N41.out.lt 48 rfl (kp + 1) rfl (((bs.take kp).flatMap Ban.cs) ++ b.cs) rfl ?_; intro Ap42 cp42 w42 op42 gp42; have N42 := Lib.hid (N41.out.grow gp42 rb41.out); have ri42 := Lib.hid (ri41.out.kept gp42 (own_types ri41.out rb41.out intBan)); have rb42 := Lib.hid op42; clear op42 gp42; refine hK.out _ _ N42.out fun hHeld => ?_; clear hK K; (try simp only [Act.put, setIfInBounds_toArray, set_cons_zero, set_cons_succ])
          refine wpAnyH_ready (rs := [16, 18]) (by kernel_rfl) (by simp) ?_; refine AllReadyH.cons rfl (fun K hK => ?_) (AllReadyH.cons rfl (fun K hK => ?_) (AllReadyH.nil))
          focus
           refine step_app_ban rfl (.tmp 48) (.tmp 52) rfl (w.heap.size + 3) _ (kp + 1) (((bs.take kp).flatMap Ban.cs) ++ b.cs) rfl rb42.out A2 (m - kp) (d - kp) ((bs.drop kp).flatMap Ban.cs) rfl HL2.out (hsrc.out _ N42.out.ext) (bans_one _) (by omega) N42.out.lt 53 rfl (m + 1) hmk ((insB bs b).flatMap Ban.cs) HE.out ?_; intro A9 c9 w43 op43 gp43; have N43 := Lib.hid (N42.out.grow gp43 rb42.out); have ri43 := Lib.hid (ri42.out.kept gp43 (own_types ri42.out rb42.out intBan)); have rb43 := Lib.hid op43; clear op43 gp43; refine hK.out _ _ N43.out fun hHeld => ?_; clear hK K; (try simp only [Act.put, setIfInBounds_toArray, set_cons_zero, set_cons_succ])
           refine wpAnyH_take (i := 17) (v := ?_) rfl (by kernel_rfl) (by kernel_rfl) (by kernel_rfl) (fun _ _ _ h => h) (Or.inl ⟨by rfl, ?_⟩) hHeld ?_; rotate_left 1; (focus (intro w hSw; go_simp; (try with_reducible rfl))); (try simp only [Act.put, setIfInBounds_toArray, set_cons_zero, set_cons_succ])
           have ex44 := (Ext.refl (w43)).alloc (.cells #[.slice none 0 0, .slice none 0 0] 27)
           have N44 := Lib.hid (N43.out.step ex44)
           refine rdy 18 (by kernel_rfl) rfl fun K hK => ?_; go_simp; (try simp only [Act.put, setIfInBounds_toArray, set_cons_zero, set_cons_succ]); (try go_wp2_with fail); refine hK.out _ _ N44.out fun hHeld => ?_; clear hK K; (try simp only [Act.put, setIfInBounds_toArray, set_cons_zero, set_cons_succ])
           have bx44 := own_low' (own_block (w43) 27 [.slice none 0 0, .slice none 0 0]) (Nat.zero_le _)
           have lt44 := N43.out.lt
           (try simp only [World.size_alloc, World.size_drew] at bx44 lt44)
           have ri44 := Lib.hid (ex44.own ri43.out)
           have rb44 := Lib.hid (ex44.own rb43.out)
           have BXn44 := Lib.hid bx44
           clear bx44 ex44
           have BXF := Lib.hid BXn44.out
           have NF := Lib.hid N44.out
           have RBF := Lib.hid rb44.out
           have RIF := Lib.hid ri44.out
           have zx : w.heap.size + 2 < w43.heap.size := lt44
           obtain ⟨xb, hxb⟩ : ∃ xb, w43.heap.size = xb := ⟨_, rfl⟩
           rw [hxb] at BXF zx
           rw [hxb]
           clear hxb
           obtain ⟨wz, hwz⟩ : ∃ wz, (w43.alloc (.cells #[.slice none 0 0, .slice none 0 0] 27)) = wz := ⟨_, rfl⟩
           rw [hwz] at BXF NF RBF RIF
           rw [hwz]
           clear hwz
          rotate_left 1
          focus
           have ex45 := (Ext.refl (w42)).alloc (.cells #[.slice none 0 0, .slice none 0 0] 27)
           have N45 := Lib.hid (N42.out.step ex45)
           go_simp; (try simp only [Act.put, setIfInBounds_toArray, set_cons_zero, set_cons_succ]); (try go_wp2_with fail); refine hK.out _ _ N45.out fun hHeld => ?_; clear hK K; (try simp only [Act.put, setIfInBounds_toArray, set_cons_zero, set_cons_succ])
           have bx45 := own_low' (own_block (w42) 27 [.slice none 0 0, .slice none 0 0]) (Nat.zero_le _)
           have lt45 := N42.out.lt
           (try simp only [World.size_alloc, World.size_drew] at bx45 lt45)
           have ri45 := Lib.hid (ex45.own ri42.out)
           have rb45 := Lib.hid (ex45.own rb42.out)
           have BXn45 := Lib.hid bx45
           clear bx45 ex45
           refine rdy 16 (by kernel_rfl) rfl fun K hK => ?_; refine step_app_ban rfl (.tmp 48) (.tmp 52) rfl (w.heap.size + 3) _ (kp + 1) (((bs.take kp).flatMap Ban.cs) ++ b.cs) rfl rb45.out A2 (m - kp) (d - kp) ((bs.drop kp).flatMap Ban.cs) rfl HL2.out (hsrc.out _ N45.out.ext) (bans_one _) (by omega) N45.out.lt 53 rfl (m + 1) hmk ((insB bs b).flatMap Ban.cs) HE.out ?_; intro A9 c9 w46 op46 gp46; have N46 := Lib.hid (N45.out.grow gp46 rb45.out); have ri46 := Lib.hid (ri45.out.kept gp46 (own_types ri45.out rb45.out intBan)); have BX46 := Lib.hid (BXn45.out.kept gp46 (own_types BXn45.out rb45.out tabBan)); have rb46 := Lib.hid op46; clear op46 gp46; refine hK.out _ _ N46.out fun hHeld => ?_; clear hK K; (try simp only [Act.put, setIfInBounds_toArray, set_cons_zero, set_cons_succ])
           refine wpAnyH_take (i := 17) (v := ?_) rfl (by kernel_rfl) (by kernel_rfl) (by kernel_rfl) (fun _ _ _ h => h) (Or.inl ⟨by rfl, ?_⟩) hHeld ?_; rotate_left 1; (focus (intro w hSw; go_simp; (try with_reducible rfl))); (try simp only [Act.put, setIfInBounds_toArray, set_cons_zero, set_cons_succ])
           have BXF := Lib.hid BX46.out
           have NF := Lib.hid N46.out
           have RBF := Lib.hid rb46.out
           have RIF := Lib.hid ri46.out
           have zx : w.heap.size + 2 < w42.heap.size := lt45
           obtain ⟨xb, hxb⟩ : ∃ xb, w42.heap.size = xb := ⟨_, rfl⟩
           rw [hxb] at BXF zx
           rw [hxb]
           clear hxb
           obtain ⟨wz, hwz⟩ : ∃ wz, w46 = wz := ⟨_, rfl⟩
           rw [hwz] at BXF NF RBF RIF
           rw [hwz]
           clear hwz
          rotate_left 1
         rotate_left 2
         focus
          have ex47 := (Ext.refl (w41)).alloc (.cells #[.slice none 0 0, .slice none 0 0] 27)
          have N47 := Lib.hid (N41.out.step ex47)
          go_simp; (try simp only [Act.put, setIfInBounds_toArray, set_cons_zero, set_cons_succ]); (try go_wp2_with fail); refine hK.out _ _ N47.out fun hHeld => ?_; clear hK K; (try simp only [Act.put, setIfInBounds_toArray, set_cons_zero, set_cons_succ])
          have bx47 := own_low' (own_block (w41) 27 [.slice none 0 0, .slice none 0 0]) (Nat.zero_le _)
          have lt47 := N41.out.lt
          (try simp only [World.size_alloc, World.size_drew] at bx47 lt47)
          have ri47 := Lib.hid (ex47.own ri41.out)
          have rv47 := Lib.hid (ex47.own rv41.out)
          have rb47 := Lib.hid (ex47.own rb41.out)
          have BXn47 := Lib.hid bx47
          clear bx47 ex47
          refine rdy 11 (by kernel_rfl) rfl fun K hK => ?_; refine step_app_ban rfl (.tmp 45) (.tmp 47) rfl (w.heap.size + 3) _ kp ((bs.take kp).flatMap Ban.cs) rfl rb47.out ⟨w0.heap.size, 0, none⟩ 1 1 b.cs rfl (Ban.len b) (fun j u hj => by rw [Addr.add_mid, Nat.zero_add]; exact own_at rv47.out hj) HBO.out (by omega) N47.out.lt 48 rfl (kp + 1) rfl (((bs.take kp).flatMap Ban.cs) ++ b.cs) rfl ?_; intro Ap48 cp48 w48 op48 gp48; have N48 := Lib.hid (N47.out.grow gp48 rb47.out); have ri48 := Lib.hid (ri47.out.kept gp48 (own_types ri47.out rb47.out intBan)); have BX48 := Lib.hid (BXn47.out.kept gp48 (own_types BXn47.out rb47.out tabBan)); have rb48 := Lib.hid op48; clear op48 gp48; refine hK.out _ _ N48.out fun hHeld => ?_; clear hK K; (try simp only [Act.put, setIfInBounds_toArray, set_cons_zero, set_cons_succ])
          refine rdy 16 (by kernel_rfl) rfl fun K hK => ?_; refine step_app_ban rfl (.tmp 48) (.tmp 52) rfl (w.heap.size + 3) _ (kp + 1) (((bs.take kp).flatMap Ban.cs) ++ b.cs) rfl rb48.out A2 (m - kp) (d - kp) ((bs.drop kp).flatMap Ban.cs) rfl HL2.out (hsrc.out _ N48.out.ext) (bans_one _) (by omega) N48.out.lt 53 rfl (m + 1) hmk ((insB bs b).flatMap Ban.cs) HE.out ?_; intro A9 c9 w49 op49 gp49; have N49 := Lib.hid (N48.out.grow gp49 rb48.out); have ri49 := Lib.hid (ri48.out.kept gp49 (own_types ri48.out rb48.out intBan)); have BX49 := Lib.hid (BX48.out.kept gp49 (own_types BX48.out rb48.out tabBan)); have rb49 := Lib.hid op49; clear op49 gp49; refine hK.out _ _ N49.out fun hHeld => ?_; clear hK K; (try simp only [Act.put, setIfInBounds_toArray, set_cons_zero, set_cons_succ])
          refine wpAnyH_take (i := 17) (v := ?_) rfl (by kernel_rfl) (by kernel_rfl) (by kernel_rfl) (fun _ _ _ h => h) (Or.inl ⟨by rfl, ?_⟩) hHeld ?_; rotate_left 1; (focus (intro w hSw; go_simp; (try with_reducible rfl))); (try simp only [Act.put, setIfInBounds_toArray, set_cons_zero, set_cons_succ])
          have BXF := Lib.hid BX49.out
          have NF := Lib.hid N49.out
          have RBF := Lib.hid rb49.out
          have RIF := Lib.hid ri49.out
          have zx : w.heap.size + 2 < w41.heap.size := lt47
          obtain ⟨xb, hxb⟩ : ∃ xb, w41.heap.size = xb := ⟨_, rfl⟩
          rw [hxb] at BXF zx
          rw [hxb]
          clear hxb
          obtain ⟨wz, hwz⟩ : ∃ wz, w49 = wz := ⟨_, rfl⟩
          rw [hwz] at BXF NF RBF RIF
          rw [hwz]
          clear hwz
         rotate_left 1
        rotate_left 3
        focus
         have ex50 := (Ext.refl (((w0.alloc (.cells #[.int .i64 b.A, .int .i64 b.X, .int .i64 b.B, .int .i64 b.Y] 61)).alloc (.cells #[] 61)))).alloc (.cells #[.slice none 0 0, .slice none 0 0] 27)
         have N50 := Lib.hid (N40.out.step ex50)
         go_simp; (try simp only [Act.put, setIfInBounds_toArray, set_cons_zero, set_cons_succ]); (try go_wp2_with fail); refine hK.out _ _ N50.out fun hHeld => ?_; clear hK K; (try simp only [Act.put, setIfInBounds_toArray, set_cons_zero, set_cons_succ])
         have bx50 := own_low' (own_block (((w0.alloc (.cells #[.int .i64 b.A, .int .i64 b.X, .int .i64 b.B, .int .i64 b.Y] 61)).alloc (.cells #[] 61))) 27 [.slice none 0 0, .slice none 0 0]) (Nat.zero_le _)
         have lt50 := N40.out.lt
         (try simp only [World.size_alloc, World.size_drew] at bx50 lt50)
         have ri50 := Lib.hid (ex50.own ri40.out)
         have rv50 := Lib.hid (ex50.own rv40.out)
         have rb50 := Lib.hid (ex50.own rbn40.out)
         have BXn50 := Lib.hid bx50
         clear bx50 ex50
         refine rdy 8 (by kernel_rfl) rfl fun K hK => ?_; refine step_app_ban rfl (.tmp 40) (.tmp 44) rfl (w.heap.size + 3) _ 0 [] rfl rb50.out ⟨bb, off, none⟩ kp d ((bs.take kp).flatMap Ban.cs) rfl HL1.out (HS1.out _ N50.out.ext) (bans_one _) (by omega) N50.out.lt 45 rfl kp (Nat.zero_add kp) ((bs.take kp).flatMap Ban.cs) (List.nil_append _) ?_; intro Ap51 cp51 w51 op51 gp51; have N51 := Lib.hid (N50.out.grow gp51 rb50.out); have ri51 := Lib.hid (ri50.out.kept gp51 (own_types ri50.out rb50.out intBan)); have rv51 := Lib.hid (rv50.out.kept gp51 (Or.inr (fun e => NE.out _ e.symm rfl))); have BX51 := Lib.hid (BXn50.out.kept gp51 (own_types BXn50.out rb50.out tabBan)); have rb51 := Lib.hid op51; clear op51 gp51; refine hK.out _ _ N51.out fun hHeld => ?_; clear hK K; (try simp only [Act.put, setIfInBounds_toArray, set_cons_zero, set_cons_succ])
         refine rdy 11 (by kernel_rfl) rfl fun K hK => ?_; refine step_app_ban rfl (.tmp 45) (.tmp 47) rfl (w.heap.size + 3) _ kp ((bs.take kp).flatMap Ban.cs) rfl rb51.out ⟨w0.heap.size, 0, none⟩ 1 1 b.cs rfl (Ban.len b) (fun j u hj => by rw [Addr.add_mid, Nat.zero_add]; exact own_at rv51.out hj) HBO.out (by omega) N51.out.lt 48 rfl (kp + 1) rfl (((bs.take kp).flatMap Ban.cs) ++ b.cs) rfl ?_; intro Ap52 cp52 w52 op52 gp52; have N52 := Lib.hid (N51.out.grow gp52 rb51.out); have ri52 := Lib.hid (ri51.out.kept gp52 (own_types ri51.out rb51.out intBan)); have BX52 := Lib.hid (BX51.out.kept gp52 (own_types BX51.out rb51.out tabBan)); have rb52 := Lib.hid op52; clear op52 gp52; refine hK.out _ _ N52.out fun hHeld => ?_; clear hK K; (try simp only [Act.put, setIfInBounds_toArray, set_cons_zero, set_cons_succ])
         refine rdy 16 (by kernel_rfl) rfl fun K hK => ?_; refine step_app_ban rfl (.tmp 48) (.tmp 52) rfl (w.heap.size + 3) _ (kp + 1) (((bs.take kp).flatMap Ban.cs) ++ b.cs) rfl rb52.out A2 (m - kp) (d - kp) ((bs.drop kp).flatMap Ban.cs) rfl HL2.out (hsrc.out _ N52.out.ext) (bans_one _) (by omega) N52.out.lt 53 rfl (m + 1) hmk ((insB bs b).flatMap Ban.cs) HE.out ?_; intro A9 c9 w53 op53 gp53; have N53 := Lib.hid (N52.out.grow gp53 rb52.out); have ri53 := Lib.hid (ri52.out.kept gp53 (own_types ri52.out rb52.out intBan)); have BX53 := Lib.hid (BX52.out.kept gp53 (own_types BX52.out rb52.out tabBan)); have rb53 := Lib.hid op53; clear op53 gp53; refine hK.out _ _ N53.out fun hHeld => ?_; clear hK K; (try simp only [Act.put, setIfInBounds_toArray, set_cons_zero, set_cons_succ])
         refine wpAnyH_take (i := 17) (v := ?_) rfl (by kernel_rfl) (by kernel_rfl) (by kernel_rfl) (fun _ _ _ h => h) (Or.inl ⟨by rfl, ?_⟩) hHeld ?_; rotate_left 1; (focus (intro w hSw; go_simp; (try with_reducible rfl))); (try simp only [Act.put, setIfInBounds_toArray, set_cons_zero, set_cons_succ])
         have BXF := Lib.hid BX53.out
         have NF := Lib.hid N53.out
         have RBF := Lib.hid rb53.out
         have RIF := Lib.hid ri53.out
         have zx : w.heap.size + 2 < ((w0.heap.size + 1) + 1) := lt50
         obtain ⟨xb, hxb⟩ : ∃ xb, ((w0.heap.size + 1) + 1) = xb := ⟨_, rfl⟩
         rw [hxb] at BXF zx
         rw [hxb]
         clear hxb
         obtain ⟨wz, hwz⟩ : ∃ wz, w53 = wz := ⟨_, rfl⟩
         rw [hwz] at BXF NF RBF RIF
         rw [hwz]
         clear hwz
        rotate_left 1
       rotate_left 4
       focus
        have ex54 := (Ext.refl ((w0.alloc (.cells #[.int .i64 b.A, .int .i64 b.X, .int .i64 b.B, .int .i64 b.Y] 61)))).alloc (.cells #[.slice none 0 0, .slice none 0 0] 27)
        have N54 := Lib.hid (N39.out.step ex54)
        go_simp; (try simp only [Act.put, setIfInBounds_toArray, set_cons_zero, set_cons_succ]); (try go_wp2_with fail); refine hK.out _ _ N54.out fun hHeld => ?_; clear hK K; (try simp only [Act.put, setIfInBounds_toArray, set_cons_zero, set_cons_succ])
        have bx54 := own_low' (own_block ((w0.alloc (.cells #[.int .i64 b.A, .int .i64 b.X, .int .i64 b.B, .int .i64 b.Y] 61))) 27 [.slice none 0 0, .slice none 0 0]) (Nat.zero_le _)
        have lt54 := N39.out.lt
        (try simp only [World.size_alloc, World.size_drew] at bx54 lt54)
        have ri54 := Lib.hid (ex54.own ri39.out)
        have rv54 := Lib.hid (ex54.own rvn39.out)
        have BXn54 := Lib.hid bx54
        clear bx54 ex54
        have ltv55 := (rv54.out.lt _ rfl).2
        (try simp only [World.size_alloc, World.size_drew] at ltv55)
        have ex55 := (Ext.refl (((w0.alloc (.cells #[.int .i64 b.A, .int .i64 b.X, .int .i64 b.B, .int .i64 b.Y] 61)).alloc (.cells #[.slice none 0 0, .slice none 0 0] 27)))).alloc (.cells #[] 61)
        have N55 := Lib.hid (N54.out.step ex55)
        refine rdy 3 (by kernel_rfl) rfl fun K hK => ?_; go_simp; (try simp only [Act.put, setIfInBounds_toArray, set_cons_zero, set_cons_succ]); (try go_wp2_with fail); refine hK.out _ _ N55.out fun hHeld => ?_; clear hK K; (try simp only [Act.put, setIfInBounds_toArray, set_cons_zero, set_cons_succ])
        have bx55 := own_empty (((w0.alloc (.cells #[.int .i64 b.A, .int .i64 b.X, .int .i64 b.B, .int .i64 b.Y] 61)).alloc (.cells #[.slice none 0 0, .slice none 0 0] 27))) (w.heap.size + 3) 61 4 (show w.heap.size + 3 ≤ _ from N54.out.lt)
        have lt55 := N54.out.lt
        (try simp only [World.size_alloc, World.size_drew] at bx55 lt55)
        have ri55 := Lib.hid (ex55.own ri54.out)
        have rv55 := Lib.hid (ex55.own rv54.out)
        have BX55 := Lib.hid (ex55.own BXn54.out)
        have rbn55 := Lib.hid bx55
        clear bx55 ex55
        have NE := Lib.hid (show ∀ k, Value.ownBlock (.slice (some ⟨((w0.heap.size + 1) + 1), 0, none⟩) 0 0) = some k → k ≠ w0.heap.size from fun k hk => by have h2 : some (((w0.heap.size + 1) + 1)) = some k := hk; injection h2 with h2; have h3 := ltv55; omega)
        refine rdy 8 (by kernel_rfl) rfl fun K hK => ?_; refine step_app_ban rfl (.tmp 40) (.tmp 44) rfl (w.heap.size + 3) _ 0 [] rfl rbn55.out ⟨bb, off, none⟩ kp d ((bs.take kp).flatMap Ban.cs) rfl HL1.out (HS1.out _ N55.out.ext) (bans_one _) (by omega) N55.out.lt 45 rfl kp (Nat.zero_add kp) ((bs.take kp).flatMap Ban.cs) (List.nil_append _) ?_; intro Ap56 cp56 w56 op56 gp56; have N56 := Lib.hid (N55.out.grow gp56 rbn55.out); have ri56 := Lib.hid (ri55.out.kept gp56 (own_types ri55.out rbn55.out intBan)); have rv56 := Lib.hid (rv55.out.kept gp56 (Or.inr (fun e => NE.out _ e.symm rfl))); have BX56 := Lib.hid (BX55.out.kept gp56 (own_types BX55.out rbn55.out tabBan)); have rb56 := Lib.hid op56; clear op56 gp56; refine hK.out _ _ N56.out fun hHeld => ?_; clear hK K; (try simp only [Act.put, setIfInBounds_toArray, set_cons_zero, set_cons_succ])
        refine rdy 11 (by kernel_rfl) rfl fun K hK => ?_; refine step_app_ban rfl (.tmp 45) (.tmp 47) rfl (w.heap.size + 3) _ kp ((bs.take kp).flatMap Ban.cs) rfl rb56.out ⟨w0.heap.size, 0, none⟩ 1 1 b.cs rfl (Ban.len b) (fun j u hj => by rw [Addr.add_mid, Nat.zero_add]; exact own_at rv56.out hj) HBO.out (by omega) N56.out.lt 48 rfl (kp + 1) rfl (((bs.take kp).flatMap Ban.cs) ++ b.cs) rfl ?_; intro Ap57 cp57 w57 op57 gp57; have N57 := Lib.hid (N56.out.grow gp57 rb56.out); have ri57 := Lib.hid (ri56.out.kept gp57 (own_types ri56.out rb56.out intBan)); have BX57 := Lib.hid (BX56.out.kept gp57 (own_types BX56.out rb56.out tabBan)); have rb57 := Lib.hid op57; clear op57 gp57; refine hK.out _ _ N57.out fun hHeld => ?_; clear hK K; (try simp only [Act.put, setIfInBounds_toArray, set_cons_zero, set_cons_succ])
        refine rdy 16 (by kernel_rfl) rfl fun K hK => ?_; refine step_app_ban rfl (.tmp 48) (.tmp 52) rfl (w.heap.size + 3) _ (kp + 1) (((bs.take kp).flatMap Ban.cs) ++ b.cs) rfl rb57.out A2 (m - kp) (d - kp) ((bs.drop kp).flatMap Ban.cs) rfl HL2.out (hsrc.out _ N57.out.ext) (bans_one _) (by omega) N57.out.lt 53 rfl (m + 1) hmk ((insB bs b).flatMap Ban.cs) HE.out ?_; intro A9 c9 w58 op58 gp58; have N58 := Lib.hid (N57.out.grow gp58 rb57.out); have ri58 := Lib.hid (ri57.out.kept gp58 (own_types ri57.out rb57.out intBan)); have BX58 := Lib.hid (BX57.out.kept gp58 (own_types BX57.out rb57.out tabBan)); have rb58 := Lib.hid op58; clear op58 gp58; refine hK.out _ _ N58.out fun hHeld => ?_; clear hK K; (try simp only [Act.put, setIfInBounds_toArray, set_cons_zero, set_cons_succ])
        refine wpAnyH_take (i := 17) (v := ?_) rfl (by kernel_rfl) (by kernel_rfl) (by kernel_rfl) (fun _ _ _ h => h) (Or.inl ⟨by rfl, ?_⟩) hHeld ?_; rotate_left 1; (focus (intro w hSw; go_simp; (try with_reducible rfl))); (try simp only [Act.put, setIfInBounds_toArray, set_cons_zero, set_cons_succ])
        have BXF := Lib.hid BX58.out
        have NF := Lib.hid N58.out
        have RBF := Lib.hid rb58.out
        have RIF := Lib.hid ri58.out
        have zx : w.heap.size + 2 < (w0.heap.size + 1) := lt54
        obtain ⟨xb, hxb⟩ : ∃ xb, (w0.heap.size + 1) = xb := ⟨_, rfl⟩
        rw [hxb] at BXF zx
        rw [hxb]
        clear hxb
        obtain ⟨wz, hwz⟩ : ∃ wz, w58 = wz := ⟨_, rfl⟩
        rw [hwz] at BXF NF RBF RIF
        rw [hwz]
        clear hwz
       rotate_left 1
      rotate_left 5
      focus
       have ex59 := (Ext.refl (w0)).alloc (.cells #[.slice none 0 0, .slice none 0 0] 27)
       have N59 := Lib.hid (N0.out.step ex59)
       go_simp; (try simp only [Act.put, setIfInBounds_toArray, set_cons_zero, set_cons_succ]); (try go_wp2_with fail); refine hK.out _ _ N59.out fun hHeld => ?_; clear hK K; (try simp only [Act.put, setIfInBounds_toArray, set_cons_zero, set_cons_succ])
       have bx59 := own_low' (own_block (w0) 27 [.slice none 0 0, .slice none 0 0]) (Nat.zero_le _)
       have lt59 := N0.out.lt
       (try simp only [World.size_alloc, World.size_drew] at bx59 lt59)
       have ri59 := Lib.hid (ex59.own rin0.out)
       have BXn59 := Lib.hid bx59
       clear bx59 ex59
       refine wpAnyH_ready (rs := [3, 10]) (by kernel_rfl) (by simp) ?_; refine AllReadyH.cons rfl (fun K hK => ?_) (AllReadyH.cons rfl (fun K hK => ?_) (AllReadyH.nil))
       focus
        have ex60 := (Ext.refl ((w0.alloc (.cells #[.slice none 0 0, .slice none 0 0] 27)))).alloc (.cells #[] 61)
        have N60 := Lib.hid (N59.out.step ex60)
        go_simp; (try simp only [Act.put, setIfInBounds_toArray, set_cons_zero, set_cons_succ]); (try go_wp2_with fail); refine hK.out _ _ N60.out fun hHeld => ?_; clear hK K; (try simp only [Act.put, setIfInBounds_toArray, set_cons_zero, set_cons_succ])
        have bx60 := own_empty ((w0.alloc (.cells #[.slice none 0 0, .slice none 0 0] 27))) (w.heap.size + 3) 61 4 (show w.heap.size + 3 ≤ _ from N59.out.lt)
        have lt60 := N59.out.lt
        (try simp only [World.size_alloc, World.size_drew] at bx60 lt60)
        have ri60 := Lib.hid (ex60.own ri59.out)
        have BX60 := Lib.hid (ex60.own BXn59.out)
        have rbn60 := Lib.hid bx60
        clear bx60 ex60
        refine wpAnyH_ready (rs := [8, 10]) (by kernel_rfl) (by simp) ?_; refine AllReadyH.cons rfl (fun K hK => ?_) (AllReadyH.cons rfl (fun K hK => ?_) (AllReadyH.nil))
        focus
         refine step_app_ban rfl (.tmp 40) (.tmp 44) rfl (w.heap.size + 3) _ 0 [] rfl rbn60.out ⟨bb, off, none⟩ kp d ((bs.take kp).flatMap Ban.cs) rfl HL1.out (HS1.out _ N60.out.ext) (bans_one _) (by omega) N60.out.lt 45 rfl kp (Nat.zero_add kp) ((bs.take kp).flatMap Ban.cs) (List.nil_append _) ?_; intro Ap61 cp61 w61 op61 gp61; have N61 := Lib.hid (N60.out.grow gp61 rbn60.out); have ri61 := Lib.hid (ri60.out.kept gp61 (own_types ri60.out rbn60.out intBan)); have BX61 := Lib.hid (BX60.out.kept gp61 (own_types BX60.out rbn60.out tabBan)); have rb61 := Lib.hid op61; clear op61 gp61; refine hK.out _ _ N61.out fun hHeld => ?_; clear hK K; (try simp only [Act.put, setIfInBounds_toArray, set_cons_zero, set_cons_succ])
         have NE := Lib.hid (show ∀ k, Value.ownBlock (.slice Ap61 kp cp61) = some k → k ≠ w61.heap.size from fun k hk => by have hh := (rb61.out.lt k hk).2; (try simp only [World.size_alloc, World.size_drew] at hh); omega)
         have ex62 := (Ext.refl (w61)).alloc (.cells #[.int .i64 b.A, .int .i64 b.X, .int .i64 b.B, .int .i64 b.Y] 61)
         have N62 := Lib.hid (N61.out.step ex62)
         refine rdy 10 (by kernel_rfl) rfl fun K hK => ?_; go_simp; (try simp only [Act.put, setIfInBounds_toArray, set_cons_zero, set_cons_succ]); (try go_wp2_with fail); refine hK.out _ _ N62.out fun hHeld => ?_; clear hK K; (try simp only [Act.put, setIfInBounds_toArray, set_cons_zero, set_cons_succ])
         have bx62 := own_low' (own_block (w61) 61 [.int .i64 b.A, .int .i64 b.X, .int .i64 b.B, .int .i64 b.Y]) (Nat.zero_le _)
         have lt62 := N61.out.lt
         (try simp only [World.size_alloc, World.size_drew] at bx62 lt62)
         have ri62 := Lib.hid (ex62.own ri61.out)
         have BX62 := Lib.hid (ex62.own BX61.out)
         have rb62 := Lib.hid (ex62.own rb61.out)
         have rvn62 := Lib.hid bx62
         clear bx62 ex62
         refine rdy 11 (by kernel_rfl) rfl fun K hK => ?_; refine step_app_ban rfl (.tmp 45) (.tmp 47) rfl (w.heap.size + 3) _ kp ((bs.take kp).flatMap Ban.cs) rfl rb62.out ⟨w61.heap.size, 0, none⟩ 1 1 b.cs rfl (Ban.len b) (fun j u hj => by rw [Addr.add_mid, Nat.zero_add]; exact own_at rvn62.out hj) HBO.out (by omega) N62.out.lt 48 rfl (kp + 1) rfl (((bs.take kp).flatMap Ban.cs) ++ b.cs) rfl ?_; intro Ap63 cp63 w63 op63 gp63; have N63 := Lib.hid (N62.out.grow gp63 rb62.out); have ri63 := Lib.hid (ri62.out.kept gp63 (own_types ri62.out rb62.out intBan)); have BX63 := Lib.hid (BX62.out.kept gp63 (own_types BX62.out rb62.out tabBan)); have rb63 := Lib.hid op63; clear op63 gp63; refine hK.out _ _ N63.out fun hHeld => ?_; clear hK K; (try simp only [Act.put, setIfInBounds_toArray, set_cons_zero, set_cons_succ])
         refine rdy 16 (by kernel_rfl) rfl fun K hK => ?_; refine step_app_ban rfl (.tmp 48) (.tmp 52) rfl (w.heap.size + 3) _ (kp + 1) (((bs.take kp).flatMap Ban.cs) ++ b.cs) rfl rb63.out A2 (m - kp) (d - kp) ((bs.drop kp).flatMap Ban.cs) rfl HL2.out (hsrc.out _ N63.out.ext) (bans_one _) (by omega) N63.out.lt 53 rfl (m + 1) hmk ((insB bs b).flatMap Ban.cs) HE.out ?_; intro A9 c9 w64 op64 gp64; have N64 := Lib.hid (N63.out.grow gp64 rb63.out); have ri64 := Lib.hid (ri63.out.kept gp64 (own_types ri63.out rb63.out intBan)); have BX64 := Lib.hid (BX63.out.kept gp64 (own_types BX63.out rb63.out tabBan)); have rb64 := Lib.hid op64; clear op64 gp64; refine hK.out _ _ N64.out fun hHeld => ?_; clear hK K; (try simp only [Act.put, setIfInBounds_toArray, set_cons_zero, set_cons_succ])
         refine wpAnyH_take (i := 17) (v := ?_) rfl (by kernel_rfl) (by kernel_rfl) (by kernel_rfl) (fun _ _ _ h => h) (Or.inl ⟨by rfl, ?_⟩) hHeld ?_; rotate_left 1; (focus (intro w hSw; go_simp; (try with_reducible rfl))); (try simp only [Act.put, setIfInBounds_toArray, set_cons_zero, set_cons_succ])
         have BXF := Lib.hid BX64.out
         have NF := Lib.hid N64.out
         have RBF := Lib.hid rb64.out
         have RIF := Lib.hid ri64.out
         have zx : w.heap.size + 2 < w0.heap.size := lt59
         obtain ⟨xb, hxb⟩ : ∃ xb, w0.heap.size = xb := ⟨_, rfl⟩
         rw [hxb] at BXF zx
         rw [hxb]
         clear hxb
         obtain ⟨wz, hwz⟩ : ∃ wz, w64 = wz := ⟨_, rfl⟩
         rw [hwz] at BXF NF RBF RIF
         rw [hwz]
         clear hwz
        rotate_left 1
        focus
         have NE := Lib.hid (show ∀ k, Value.ownBlock (.slice (some ⟨(w0.heap.size + 1), 0, none⟩) 0 0) = some k → k ≠ ((w0.heap.size + 1) + 1) from fun k hk => by have hh := (rbn60.out.lt k hk).2; (try simp only [World.size_alloc, World.size_drew] at hh); omega)
         have ex65 := (Ext.refl (((w0.alloc (.cells #[.slice none 0 0, .slice none 0 0] 27)).alloc (.cells #[] 61)))).alloc (.cells #[.int .i64 b.A, .int .i64 b.X, .int .i64 b.B, .int .i64 b.Y] 61)
         have N65 := Lib.hid (N60.out.step ex65)
         go_simp; (try simp only [Act.put, setIfInBounds_toArray, set_cons_zero, set_cons_succ]); (try go_wp2_with fail); refine hK.out _ _ N65.out fun hHeld => ?_; clear hK K; (try simp only [Act.put, setIfInBounds_toArray, set_cons_zero, set_cons_succ])
         have bx65 := own_low' (own_block (((w0.alloc (.cells #[.slice none 0 0, .slice none 0 0] 27)).alloc (.cells #[] 61))) 61 [.int .i64 b.A, .int .i64 b.X, .int .i64 b.B, .int .i64 b.Y]) (Nat.zero_le _)
         have lt65 := N60.out.lt
         (try simp only [World.size_alloc, World.size_drew] at bx65 lt65)
         have ri65 := Lib.hid (ex65.own ri60.out)
         have BX65 := Lib.hid (ex65.own BX60.out)
         have rb65 := Lib.hid (ex65.own rbn60.out)
         have rvn65 := Lib.hid bx65
         clear bx65 ex65
         refine rdy 8 (by kernel_rfl) rfl fun K hK => ?_; refine step_app_ban rfl (.tmp 40) (.tmp 44) rfl (w.heap.size + 3) _ 0 [] rfl rb65.out ⟨bb, off, none⟩ kp d ((bs.take kp).flatMap Ban.cs) rfl HL1.out (HS1.out _ N65.out.ext) (bans_one _) (by omega) N65.out.lt 45 rfl kp (Nat.zero_add kp) ((bs.take kp).flatMap Ban.cs) (List.nil_append _) ?_; intro Ap66 cp66 w66 op66 gp66; have N66 := Lib.hid (N65.out.grow gp66 rb65.out); have ri66 := Lib.hid (ri65.out.kept gp66 (own_types ri65.out rb65.out intBan)); have BX66 := Lib.hid (BX65.out.kept gp66 (own_types BX65.out rb65.out tabBan)); have rv66 := Lib.hid (rvn65.out.kept gp66 (Or.inr (fun e => NE.out _ e.symm rfl))); have rb66 := Lib.hid op66; clear op66 gp66; refine hK.out _ _ N66.out fun hHeld => ?_; clear hK K; (try simp only [Act.put, setIfInBounds_toArray, set_cons_zero, set_cons_succ])
         refine rdy 11 (by kernel_rfl) rfl fun K hK => ?_; refine step_app_ban rfl (.tmp 45) (.tmp 47) rfl (w.heap.size + 3) _ kp ((bs.take kp).flatMap Ban.cs) rfl rb66.out ⟨((w0.heap.size + 1) + 1), 0, none⟩ 1 1 b.cs rfl (Ban.len b) (fun j u hj => by rw [Addr.add_mid, Nat.zero_add]; exact own_at rv66.out hj) HBO.out (by omega) N66.out.lt 48 rfl (kp + 1) rfl (((bs.take kp).flatMap Ban.cs) ++ b.cs) rfl ?_; intro Ap67 cp67 w67 op67 gp67; have N67 := Lib.hid (N66.out.grow gp67 rb66.out); have ri67 := Lib.hid (ri66.out.kept gp67 (own_types ri66.out rb66.out intBan)); have BX67 := Lib.hid (BX66.out.kept gp67 (own_types BX66.out rb66.out tabBan)); have rb67 := Lib.hid op67; clear op67 gp67; refine hK.out _ _ N67.out fun hHeld => ?_; clear hK K; (try simp only [Act.put, setIfInBounds_toArray, set_cons_zero, set_cons_succ])
         refine rdy 16 (by kernel_rfl) rfl fun K hK => ?_; refine step_app_ban rfl (.tmp 48) (.tmp 52) rfl (w.heap.size + 3) _ (kp + 1) (((bs.take kp).flatMap Ban.cs) ++ b.cs) rfl rb67.out A2 (m - kp) (d - kp) ((bs.drop kp).flatMap Ban.cs) rfl HL2.out (hsrc.out _ N67.out.ext) (bans_one _) (by omega) N67.out.lt 53 rfl (m + 1) hmk ((insB bs b).flatMap Ban.cs) HE.out ?_; intro A9 c9 w68 op68 gp68; have N68 := Lib.hid (N67.out.grow gp68 rb67.out); have ri68 := Lib.hid (ri67.out.kept gp68 (own_types ri67.out rb67.out intBan)); have BX68 := Lib.hid (BX67.out.kept gp68 (own_types BX67.out rb67.out tabBan)); have rb68 := Lib.hid op68; clear op68 gp68; refine hK.out _ _ N68.out fun hHeld => ?_; clear hK K; (try simp only [Act.put, setIfInBounds_toArray, set_cons_zero, set_cons_succ])
         refine wpAnyH_take (i := 17) (v := ?_) rfl (by kernel_rfl) (by kernel_rfl) (by kernel_rfl) (fun _ _ _ h => h) (Or.inl ⟨by rfl, ?_⟩) hHeld ?_; rotate_left 1; (focus (intro w hSw; go_simp; (try with_reducible rfl))); (try simp only [Act.put, setIfInBounds_toArray, set_cons_zero, set_cons_succ])
         have BXF := Lib.hid BX68.out
         have NF := Lib.hid N68.out
         have RBF := Lib.hid rb68.out
         have RIF := Lib.hid ri68.out
         have zx : w.heap.size + 2 < w0.heap.size := lt59
         obtain ⟨xb, hxb⟩ : ∃ xb, w0.heap.size = xb := ⟨_, rfl⟩
         rw [hxb] at BXF zx
         rw [hxb]
         clear hxb
         obtain ⟨wz, hwz⟩ : ∃ wz, w68 = wz := ⟨_, rfl⟩
         rw [hwz] at BXF NF RBF RIF
         rw [hwz]
         clear hwz
        rotate_left 1
       rotate_left 2
       focus
        have ex69 := (Ext.refl ((w0.alloc (.cells #[.slice none 0 0, .slice none 0 0] 27)))).alloc (.cells #[.int .i64 b.A, .int .i64 b.X, .int .i64 b.B, .int .i64 b.Y] 61)
        have N69 := Lib.hid (N59.out.step ex69)
        go_simp; (try simp only [Act.put, setIfInBounds_toArray, set_cons_zero, set_cons_succ]); (try go_wp2_with fail); refine hK.out _ _ N69.out fun hHeld => ?_; clear hK K; (try simp only [Act.put, setIfInBounds_toArray, set_cons_zero, set_cons_succ])
        have bx69 := own_low' (own_block ((w0.alloc (.cells #[.slice none 0 0, .slice none 0 0] 27))) 61 [.int .i64 b.A, .int .i64 b.X, .int .i64 b.B, .int .i64 b.Y]) (Nat.zero_le _)
        have lt69 := N59.out.lt
        (try simp only [World.size_alloc, World.size_drew] at bx69 lt69)
        have ri69 := Lib.hid (ex69.own ri59.out)
        have BX69 := Lib.hid (ex69.own BXn59.out)
        have rvn69 := Lib.hid bx69
        clear bx69 ex69
        have ltv70 := (rvn69.out.lt _ rfl).2
        (try simp only [World.size_alloc, World.size_drew] at ltv70)
        have ex70 := (Ext.refl (((w0.alloc (.cells #[.slice none 0 0, .slice none 0 0] 27)).alloc (.cells #[.int .i64 b.A, .int .i64 b.X, .int .i64 b.B, .int .i64 b.Y] 61)))).alloc (.cells #[] 61)
        have N70 := Lib.hid (N69.out.step ex70)
        refine rdy 3 (by kernel_rfl) rfl fun K hK => ?_; go_simp; (try simp only [Act.put, setIfInBounds_toArray, set_cons_zero, set_cons_succ]); (try go_wp2_with fail); refine hK.out _ _ N70.out fun hHeld => ?_; clear hK K; (try simp only [Act.put, setIfInBounds_toArray, set_cons_zero, set_cons_succ])
        have bx70 := own_empty (((w0.alloc (.cells #[.slice none 0 0, .slice none 0 0] 27)).alloc (.cells #[.int .i64 b.A, .int .i64 b.X, .int .i64 b.B, .int .i64 b.Y] 61))) (w.heap.size + 3) 61 4 (show w.heap.size + 3 ≤ _ from N69.out.lt)
        have lt70 := N69.out.lt
        (try simp only [World.size_alloc, World.size_drew] at bx70 lt70)
        have ri70 := Lib.hid (ex70.own ri69.out)
        have BX70 := Lib.hid (ex70.own BX69.out)
        have rv70 := Lib.hid (ex70.own rvn69.out)
        have rbn70 := Lib.hid bx70
        clear bx70 ex70
        have NE := Lib.hid (show ∀ k, Value.ownBlock (.slice (some ⟨((w0.heap.size + 1) + 1), 0, none⟩) 0 0) = some k → k ≠ (w0.heap.size + 1) from fun k hk => by have h2 : some (((w0.heap.size + 1) + 1)) = some k := hk; injection h2 with h2; have h3 := ltv70; omega)
        refine rdy 8 (by kernel_rfl) rfl fun K hK => ?_; refine step_app_ban rfl (.tmp 40) (.tmp 44) rfl (w.heap.size + 3) _ 0 [] rfl rbn70.out ⟨bb, off, none⟩ kp d ((bs.take kp).flatMap Ban.cs) rfl HL1.out (HS1.out _ N70.out.ext) (bans_one _) (by omega) N70.out.lt 45 rfl kp (Nat.zero_add kp) ((bs.take kp).flatMap Ban.cs) (List.nil_append _) ?_; intro Ap71 cp71 w71 op71 gp71; have N71 := Lib.hid (N70.out.grow gp71 rbn70.out); have ri71 := Lib.hid (ri70.out.kept gp71 (own_types ri70.out rbn70.out intBan)); have BX71 := Lib.hid (BX70.out.kept gp71 (own_types BX70.out rbn70.out tabBan)); have rv71 := Lib.hid (rv70.out.kept gp71 (Or.inr (fun e => NE.out _ e.symm rfl))); have rb71 := Lib.hid op71; clear op71 gp71; refine hK.out _ _ N71.out fun hHeld => ?_; clear hK K; (try simp only [Act.put, setIfInBounds_toArray, set_cons_zero, set_cons_succ])
        refine rdy 11 (by kernel_rfl) rfl fun K hK => ?_; refine step_app_ban rfl (.tmp 45) (.tmp 47) rfl (w.heap.size + 3) _ kp ((bs.take kp).flatMap Ban.cs) rfl rb71.out ⟨(w0.heap.size + 1), 0, none⟩ 1 1 b.cs rfl (Ban.len b) (fun j u hj => by rw [Addr.add_mid, Nat.zero_add]; exact own_at rv71.out hj) HBO.out (by omega) N71.out.lt 48 rfl (kp + 1) rfl (((bs.take kp).flatMap Ban.cs) ++ b.cs) rfl ?_; intro Ap72 cp72 w72 op72 gp72; have N72 := Lib.hid (N71.out.grow gp72 rb71.out); have ri72 := Lib.hid (ri71.out.kept gp72 (own_types ri71.out rb71.out intBan)); have BX72 := Lib.hid (BX71.out.kept gp72 (own_types BX71.out rb71.out tabBan)); have rb72 := Lib.hid op72; clear op72 gp72; refine hK.out _ _ N72.out fun hHeld => ?_; clear hK K; (try simp only [Act.put, setIfInBounds_toArray, set_cons_zero, set_cons_succ])
        refine rdy 16 (by kernel_rfl) rfl fun K hK => ?_; refine step_app_ban rfl (.tmp 48) (.tmp 52) rfl (w.heap.size + 3) _ (kp + 1) (((bs.take kp).flatMap Ban.cs) ++ b.cs) rfl rb72.out A2 (m - kp) (d - kp) ((bs.drop kp).flatMap Ban.cs) rfl HL2.out (hsrc.out _ N72.out.ext) (bans_one _) (by omega) N72.out.lt 53 rfl (m + 1) hmk ((insB bs b).flatMap Ban.cs) HE.out ?_; intro A9 c9 w73 op73 gp73; have N73 := Lib.hid (N72.out.grow gp73 rb72.out); have ri73 := Lib.hid (ri72.out.kept gp73 (own_types ri72.out rb72.out intBan)); have BX73 := Lib.hid (BX72.out.kept gp73 (own_types BX72.out rb72.out tabBan)); have rb73 := Lib.hid op73; clear op73 gp73; refine hK.out _ _ N73.out fun hHeld => ?_; clear hK K; (try simp only [Act.put, setIfInBounds_toArray, set_cons_zero, set_cons_succ])
        refine wpAnyH_take (i := 17) (v := ?_) rfl (by kernel_rfl) (by kernel_rfl) (by kernel_rfl) (fun _ _ _ h => h) (Or.inl ⟨by rfl, ?_⟩) hHeld ?_; rotate_left 1; (focus (intro w hSw; go_simp; (try with_reducible rfl))); (try simp only [Act.put, setIfInBounds_toArray, set_cons_zero, set_cons_succ])
        have BXF := Lib.hid BX73.out
        have NF := Lib.hid N73.out
        have RBF := Lib.hid rb73.out
        have RIF := Lib.hid ri73.out
        have zx : w.heap.size + 2 < w0.heap.size := lt59
        obtain ⟨xb, hxb⟩ : ∃ xb, w0.heap.size = xb := ⟨_, rfl⟩
        rw [hxb] at BXF zx
        rw [hxb]
        clear hxb
        obtain ⟨wz, hwz⟩ : ∃ wz, w73 = wz := ⟨_, rfl⟩
        rw [hwz] at BXF NF RBF RIF
        rw [hwz]
        clear hwz
       rotate_left 1
      rotate_left 3
     rotate_left 18
     focus
      have ex74 := (Ext.refl (wc.drew)).alloc (.cells #[] 61)
      have N74 := Lib.hid (N2.out.step ex74)
      go_simp; (try simp only [Act.put, setIfInBounds_toArray, set_cons_zero, set_cons_succ]); (try go_wp2_with fail); refine hK.out _ _ N74.out fun hHeld => ?_; clear hK K; (try simp only [Act.put, setIfInBounds_toArray, set_cons_zero, set_cons_succ])
      have bx74 := own_empty (wc.drew) (w.heap.size + 3) 61 4 (show w.heap.size + 3 ≤ _ from N2.out.lt)
      have lt74 := N2.out.lt
      (try simp only [World.size_alloc, World.size_drew] at bx74 lt74)
      have rbn74 := Lib.hid bx74
      clear bx74 ex74
      refine wpAnyH_ready (rs := [2, 10, 18]) (by kernel_rfl) (by simp) ?_; refine AllReadyH.cons rfl (fun K hK => ?_) (AllReadyH.cons rfl (fun K hK => ?_) (AllReadyH.cons rfl (fun K hK => ?_) (AllReadyH.nil)))
      focus
       go_simp; (try simp only [Act.put, setIfInBounds_toArray, set_cons_zero, set_cons_succ]); (try go_wp2_with (go_at_call 66; refine (l1Own_any aa n c ss _ hn (h.sr.ext N74.out.ext)).mono ?_; rintro e w75 ⟨A1, c1, rfl, oc75, he1⟩)); refine hK.out _ _ (N74.out.step he1) fun hHeld => ?_; clear hK K; (try simp only [Act.put, setIfInBounds_toArray, set_cons_zero, set_cons_succ])
       have rb75 := Lib.hid (he1.own rbn74.out)
       have N75 := Lib.hid (N74.out.step he1)
       have rin75 := Lib.hid (own_low' oc75 (show w.heap.size + 3 ≤ _ from N74.out.lt))
       clear oc75 he1
       refine wpAnyH_ready (rs := [8, 10, 18]) (by kernel_rfl) (by simp) ?_; refine AllReadyH.cons rfl (fun K hK => ?_) (AllReadyH.cons rfl (fun K hK => ?_) (AllReadyH.cons rfl (fun K hK => ?_) (AllReadyH.nil)))
       focus
        refine step_app_ban rfl (.tmp 40) (.tmp 44) rfl (w.heap.size + 3) _ 0 [] rfl rb75.out ⟨bb, off, none⟩ kp d ((bs.take kp).flatMap Ban.cs) rfl HL1.out (HS1.out _ N75.out.ext) (bans_one _) (by omega) N75.out.lt 45 rfl kp (Nat.zero_add kp) ((bs.take kp).flatMap Ban.cs) (List.nil_append _) ?_; intro Ap76 cp76 w76 op76 gp76; have N76 := Lib.hid (N75.out.grow gp76 rb75.out); have ri76 := Lib.hid (rin75.out.kept gp76 (own_types rin75.out rb75.out intBan)); have rb76 := Lib.hid op76; clear op76 gp76; refine hK.out _ _ N76.out fun hHeld => ?_; clear hK K; (try simp only [Act.put, setIfInBounds_toArray, set_cons_zero, set_cons_succ])
        refine wpAnyH_ready (rs := [10, 18]) (by kernel_rfl) (by simp) ?_; refine AllReadyH.cons rfl (fun K hK => ?_) (AllReadyH.cons rfl (fun K hK => ?_) (AllReadyH.nil))
        focus
         have NE := Lib.hid (show ∀ k, Value.ownBlock (.slice Ap76 kp cp76) = some k → k ≠ w76.heap.size from fun k hk => by have hh := (rb76.out.lt k hk).2; (try simp only [World.size_alloc, World.size_drew] at hh); omega)
         have ex77 := (Ext.refl (w76)).alloc (.cells #[.int .i64 b.A, .int .i64 b.X, .int .i64 b.B, .int .i64 b.Y] 61)
         have N77 := Lib.hid (N76.out.step ex77)
         go_simp; (try simp only [Act.put, setIfInBounds_toArray, set_cons_zero, set_cons_succ]); (try go_wp2_with fail); refine hK.out _ _ N77.out fun hHeld => ?_; clear hK K; (try simp only [Act.put, setIfInBounds_toArray, set_cons_zero, set_cons_succ])
         have bx77 := own_low' (own_block (w76) 61 [.int .i64 b.A, .int .i64 b.X, .int .i64 b.B, .int .i64 b.Y]) (Nat.zero_le _)
         have lt77 := N76.out.lt
         (try simp only [World.size_alloc, World.size_drew] at bx77 lt77)
         have rb77 := Lib.hid (ex77.own rb76.out)
         have ri77 := Lib.hid (ex77.own ri76.out)
         have rvn77 := Lib.hid bx77
         clear bx77 ex77
         refine wpAnyH_ready (rs := [11, 18]) (by kernel_rfl) (by simp) ?_; refine AllReadyH.cons rfl (fun K hK => ?_) (AllReadyH.cons rfl (fun K hK => ?_) (AllReadyH.nil))
         focus
          refine step_app_ban rfl (.tmp 45) (.tmp 47) rfl (w.heap.size + 3) _ kp ((bs.take kp).flatMap Ban.cs) rfl rb77.out ⟨w76.heap.size, 0, none⟩ 1 1 b.cs rfl (Ban.len b) (fun j u hj => by rw [Addr.add_mid, Nat.zero_add]; exact own_at rvn77.out hj) HBO.out (by omega) N77.out.lt 48 rfl (kp + 1) rfl (((bs.take kp).flatMap Ban.cs) ++ b.cs) rfl ?_; intro Ap78 cp78 w78 op78 gp78; have N78 := Lib.hid (N77.out.grow gp78 rb77.out); have ri78 := Lib.hid (ri77.out.kept gp78 (own_types ri77.out rb77.out intBan)); have rb78 := Lib.hid op78; clear op78 gp78; refine hK.out _ _ N78.out fun hHeld => ?_; clear hK K; (try simp only [Act.put, setIfInBounds_toArray, set_cons_zero, set_cons_succ])
          refine wpAnyH_ready (rs := [16, 18]) (by kernel_rfl) (by simp) ?_; refine AllReadyH.cons rfl (fun K hK => ?_) (AllReadyH.cons rfl (fun K hK => ?_) (AllReadyH.nil))
          focus
           refine step_app_ban rfl (.tmp 48) (.tmp 52) rfl (w.heap.size + 3) _ (kp + 1) (((bs.take kp).flatMap Ban.cs) ++ b.cs) rfl rb78.out A2 (m - kp) (d - kp) ((bs.drop kp).flatMap Ban.cs) rfl HL2.out (hsrc.out _ N78.out.ext) (bans_one _) (by omega) N78.out.lt 53 rfl (m + 1) hmk ((insB bs b).flatMap Ban.cs) HE.out ?_; intro A9 c9 w79 op79 gp79; have N79 := Lib.hid (N78.out.grow gp79 rb78.out); have ri79 := Lib.hid (ri78.out.kept gp79 (own_types ri78.out rb78.out intBan)); have rb79 := Lib.hid op79; clear op79 gp79; refine hK.out _ _ N79.out fun hHeld => ?_; clear hK K; (try simp only [Act.put, setIfInBounds_toArray, set_cons_zero, set_cons_succ])
           refine wpAnyH_take (i := 17) (v := ?_) rfl (by kernel_rfl) (by kernel_rfl) (by kernel_rfl) (fun _ _ _ h => h) (Or.inl ⟨by rfl, ?_⟩) hHeld ?_; rotate_left 1; (focus (intro w hSw; go_simp; (try with_reducible rfl))); (try simp only [Act.put, setIfInBounds_toArray, set_cons_zero, set_cons_succ])
           have ex80 := (Ext.refl (w79)).alloc (.cells #[.slice none 0 0, .slice none 0 0] 27)
           have N80 := Lib.hid (N79.out.step ex80)
           refine rdy 18 (by kernel_rfl) rfl fun K hK => ?_; go_simp; (try simp only [Act.put, setIfInBounds_toArray, set_cons_zero, set_cons_succ]); (try go_wp2_with fail); refine hK.out _ _ N80.out fun hHeld => ?_; clear hK K; (try simp only [Act.put, setIfInBounds_toArray, set_cons_zero, set_cons_succ])
           have bx80 := own_low' (own_block (w79) 27 [.slice none 0 0, .slice none 0 0]) (Nat.zero_le _)
           have lt80 := N79.out.lt
           (try simp only [World.size_alloc, World.size_drew] at bx80 lt80)
           have rb80 := Lib.hid (ex80.own rb79.out)
           have ri80 := Lib.hid (ex80.own ri79.out)
           have BXn80 := Lib.hid bx80
           clear bx80 ex80
           have BXF := Lib.hid BXn80.out
           have NF := Lib.hid N80.out
           have RBF := Lib.hid rb80.out
           have RIF := Lib.hid ri80.out
           have zx : w.heap.size + 2 < w79.heap.size := lt80
           obtain ⟨xb, hxb⟩ : ∃ xb, w79.heap.size = xb := ⟨_, rfl⟩
           rw [hxb] at BXF zx
           rw [hxb]
           clear hxb
           obtain ⟨wz, hwz⟩ : ∃ wz, (w79.alloc (.cells #[.slice none 0 0, .slice none 0 0] 27)) = wz := ⟨_, rfl⟩
           rw [hwz] at BXF NF RBF RIF
           rw [hwz]
           clear hwz
          rotate_left 1
          focus
           have ex81 := (Ext.refl (w78)).alloc (.cells #[.slice none 0 0, .slice none 0 0] 27)
           have N81 := Lib.hid (N78.out.step ex81)
           go_simp; (try simp only [Act.put, setIfInBounds_toArray, set_cons_zero, set_cons_succ]); (try go_wp2_with fail); refine hK.out _ _ N81.out fun hHeld => ?_; clear hK K; (try simp only [Act.put, setIfInBounds_toArray, set_cons_zero, set_cons_succ])
           have bx81 := own_low' (own_block (w78) 27 [.slice none 0 0, .slice none 0 0]) (Nat.zero_le _)
           have lt81 := N78.out.lt
           (try simp only [World.size_alloc, World.size_drew] at bx81 lt81)
           have rb81 := Lib.hid (ex81.own rb78.out)
           have ri81 := Lib.hid (ex81.own ri78.out)
           have BXn81 := Lib.hid bx81
           clear bx81 ex81
           refine rdy 16 (by kernel_rfl) rfl fun K hK => ?_; refine step_app_ban rfl (.tmp 48) (.tmp 52) rfl (w.heap.size + 3) _ (kp + 1) (((bs.take kp).flatMap Ban.cs) ++ b.cs) rfl rb81.out A2 (m - kp) (d - kp) ((bs.drop kp).flatMap Ban.cs) rfl HL2.out (hsrc.out _ N81.out.ext) (bans_one _) (by omega) N81.out.lt 53 rfl (m + 1) hmk ((insB bs b).flatMap Ban.cs) HE.out ?_; intro A9 c9 w82 op82 gp82; have N82 := Lib.hid (N81.out.grow gp82 rb81.out); have ri82 := Lib.hid (ri81.out.kept gp82 (own_types ri81.out rb81.out intBan)); have BX82 := Lib.hid (BXn81.out.kept gp82 (own_types BXn81.out rb81.out tabBan)); have rb82 := Lib.hid op82; clear op82 gp82; refine hK.out _ _ N82.out fun hHeld => ?_; clear hK K; (try simp only [Act.put, setIfInBounds_toArray, set_cons_zero, set_cons_succ])
           refine wpAnyH_take (i := 17) (v := ?_) rfl (by kernel_rfl) (by kernel_rfl) (by kernel_rfl) (fun _ _ _ h => h) (Or.inl ⟨by rfl, ?_⟩) hHeld ?_; rotate_left 1; (focus (intro w hSw; go_simp; (try with_reducible rfl))); (try simp only [Act.put, setIfInBounds_toArray, set_cons_zero, set_cons_succ])
           have BXF := Lib.hid BX82.out
           have NF := Lib.hid N82.out
           have RBF := Lib.hid rb82.out
           have RIF := Lib.hid ri82.out
           have zx : w.heap.size + 2 < w78.heap.size := lt81
           obtain ⟨xb, hxb⟩ : ∃ xb, w78.heap.size = xb := ⟨_, rfl⟩
           rw [hxb] at BXF zx
           rw [hxb]
           clear hxb
           obtain ⟨wz, hwz⟩ : ∃ wz, w82 = wz := ⟨_, rfl⟩
           rw [hwz] at BXF NF RBF RIF
           rw [hwz]
           clear hwz
          rotate_left 1
         rotate_left 2
         focus
          have ex83 := (Ext.refl ((w76.alloc (.cells #[.int .i64 b.A, .int .i64 b.X, .int .i64 b.B, .int .i64 b.Y] 61)))).alloc (.cells #[.slice none 0 0, .slice none 0 0] 27)
          have N83 := Lib.hid (N77.out.step ex83)
          go_simp; (try simp only [Act.put, setIfInBounds_toArray, set_cons_zero, set_cons_succ]); (try go_wp2_with fail); refine hK.out _ _ N83.out fun hHeld => ?_; clear hK K; (try simp only [Act.put, setIfInBounds_toArray, set_cons_zero, set_cons_succ])
          have bx83 := own_low' (own_block ((w76.alloc (.cells #[.int .i64 b.A, .int .i64 b.X, .int .i64 b.B, .int .i64 b.Y] 61))) 27 [.slice none 0 0, .slice none 0 0]) (Nat.zero_le _)
          have lt83 := N77.out.lt
          (try simp only [World.size_alloc, World.size_drew] at bx83 lt83)
          have rb83 := Lib.hid (ex83.own rb77.out)
          have ri83 := Lib.hid (ex83.own ri77.out)
          have rv83 := Lib.hid (ex83.own rvn77.out)
          have BXn83 := Lib.hid bx83
          clear bx83 ex83
          refine rdy 11 (by kernel_rfl) rfl fun K hK => ?_; refine step_app_ban rfl (.tmp 45) (.tmp 47) rfl (w.heap.size + 3) _ kp ((bs.take kp).flatMap Ban.cs) rfl rb83.out ⟨w76.heap.size, 0, none⟩ 1 1 b.cs rfl (Ban.len b) (fun j u hj => by rw [Addr.add_mid, Nat.zero_add]; exact own_at rv83.out hj) HBO.out (by omega) N83.out.lt 48 rfl (kp + 1) rfl (((bs.take kp).flatMap Ban.cs) ++ b.cs) rfl ?_; intro Ap84 cp84 w84 op84 gp84; have N84 := Lib.hid (N83.out.grow gp84 rb83.out); have ri84 := Lib.hid (ri83.out.kept gp84 (own_types ri83.out rb83.out intBan)); have BX84 := Lib.hid (BXn83.out.kept gp84 (own_types BXn83.out rb83.out tabBan)); have rb84 := Lib.hid op84; clear op84 gp84; refine hK.out _ _ N84.out fun hHeld => ?_; clear hK K; (try simp only [Act.put, setIfInBounds_toArray, set_cons_zero, set_cons_succ])
          refine rdy 16 (by kernel_rfl) rfl fun K hK => ?_; refine step_app_ban rfl (.tmp 48) (.tmp 52) rfl (w.heap.size + 3) _ (kp + 1) (((bs.take kp).flatMap Ban.cs) ++ b.cs) rfl rb84.out A2 (m - kp) (d - kp) ((bs.drop kp).flatMap Ban.cs) rfl HL2.out (hsrc.out _ N84.out.ext) (bans_one _) (by omega) N84.out.lt 53 rfl (m + 1) hmk ((insB bs b).flatMap Ban.cs) HE.out ?_; intro A9 c9 w85 op85 gp85; have N85 := Lib.hid (N84.out.grow gp85 rb84.out); have ri85 := Lib.hid (ri84.out.kept gp85 (own_types ri84.out rb84.out intBan)); have BX85 := Lib.hid (BX84.out.kept gp85 (own_types BX84.out rb84.out tabBan)); have rb85 := Lib.hid op85; clear op85 gp85; refine hK.out _ _ N85.out fun hHeld => ?_; clear hK K; (try simp only [Act.put, setIfInBounds_toArray, set_cons_zero, set_cons_succ])
          refine wpAnyH_take (i := 17) (v := ?_) rfl (by kernel_rfl) (by kernel_rfl) (by kernel_rfl) (fun _ _ _ h => h) (Or.inl ⟨by rfl, ?_⟩) hHeld ?_; rotate_left 1; (focus (intro w hSw; go_simp; (try with_reducible rfl))); (try simp only [Act.put, setIfInBounds_toArray, set_cons_zero, set_cons_succ])
          have BXF := Lib.hid BX85.out
          have NF := Lib.hid N85.out
          have RBF := Lib.hid rb85.out
          have RIF := Lib.hid ri85.out
          have zx : w.heap.size + 2 < (w76.heap.size + 1) := lt83
          obtain ⟨xb, hxb⟩ : ∃ xb, (w76.heap.size + 1) = xb := ⟨_, rfl⟩
          rw [hxb] at BXF zx
          rw [hxb]
          clear hxb
          obtain ⟨wz, hwz⟩ : ∃ wz, w85 = wz := ⟨_, rfl⟩
          rw [hwz] at BXF NF RBF RIF
          rw [hwz]
          clear hwz
         rotate_left 1
        rotate_left 3
        focus
         have ex86 := (Ext.refl (w76)).alloc (.cells #[.slice none 0 0, .slice none 0 0] 27)
         have N86 := Lib.hid (N76.out.step ex86)
         go_simp; (try simp only [Act.put, setIfInBounds_toArray, set_cons_zero, set_cons_succ]); (try go_wp2_with fail); refine hK.out _ _ N86.out fun hHeld => ?_; clear hK K; (try simp only [Act.put, setIfInBounds_toArray, set_cons_zero, set_cons_succ])
         have bx86 := own_low' (own_block (w76) 27 [.slice none 0 0, .slice none 0 0]) (Nat.zero_le _)
         have lt86 := N76.out.lt
         (try simp only [World.size_alloc, World.size_drew] at bx86 lt86)
         have rb86 := Lib.hid (ex86.own rb76.out)
         have ri86 := Lib.hid (ex86.own ri76.out)
         have BXn86 := Lib.hid bx86
         clear bx86 ex86
         have NE := Lib.hid (show ∀ k, Value.ownBlock (.slice Ap76 kp cp76) = some k → k ≠ (w76.heap.size + 1) from fun k hk => by have hh := (rb86.out.lt k hk).2; (try simp only [World.size_alloc, World.size_drew] at hh); omega)
         have ex87 := (Ext.refl ((w76.alloc (.cells #[.slice none 0 0, .slice none 0 0] 27)))).alloc (.cells #[.int .i64 b.A, .int .i64 b.X, .int .i64 b.B, .int .i64 b.Y] 61)
         have N87 := Lib.hid (N86.out.step ex87)
         refine rdy 10 (by kernel_rfl) rfl fun K hK => ?_; go_simp; (try simp only [Act.put, setIfInBounds_toArray, set_cons_zero, set_cons_succ]); (try go_wp2_with fail); refine hK.out _ _ N87.out fun hHeld => ?_; clear hK K; (try simp only [Act.put, setIfInBounds_toArray, set_cons_zero, set_cons_succ])
         have bx87 := own_low' (own_block ((w76.alloc (.cells #[.slice none 0 0, .slice none 0 0] 27))) 61 [.int .i64 b.A, .int .i64 b.X, .int .i64 b.B, .int .i64 b.Y]) (Nat.zero_le _)
         have lt87 := N86.out.lt
         (try simp only [World.size_alloc, World.size_drew] at bx87 lt87)
         have rb87 := Lib.hid (ex87.own rb86.out)
         have ri87 := Lib.hid (ex87.own ri86.out)
         have BX87 := Lib.hid (ex87.own BXn86.out)
         have rvn87 := Lib.hid bx87
         clear bx87 ex87
         refine rdy 11 (by kernel_rfl) rfl fun K hK => ?_; refine step_app_ban rfl (.tmp 45) (.tmp 47) rfl (w.heap.size + 3) _ kp ((bs.take kp).flatMap Ban.cs) rfl rb87.out ⟨(w76.heap.size + 1), 0, none⟩ 1 1 b.cs rfl (Ban.len b) (fun j u hj => by rw [Addr.add_mid, Nat.zero_add]; exact own_at rvn87.out hj) HBO.out (by omega) N87.out.lt 48 rfl (kp + 1) rfl (((bs.take kp).flatMap Ban.cs) ++ b.cs) rfl ?_; intro Ap88 cp88 w88 op88 gp88; have N88 := Lib.hid (N87.out.grow gp88 rb87.out); have ri88 := Lib.hid (ri87.out.kept gp88 (own_types ri87.out rb87.out intBan)); have BX88 := Lib.hid (BX87.out.kept gp88 (own_types BX87.out rb87.out tabBan)); have rb88 := Lib.hid op88; clear op88 gp88; refine hK.out _ _ N88.out fun hHeld => ?_; clear hK K; (try simp only [Act.put, setIfInBounds_toArray, set_cons_zero, set_cons_succ])
         refine rdy 16 (by kernel_rfl) rfl fun K hK => ?_; refine step_app_ban rfl (.tmp 48) (.tmp 52) rfl (w.heap.size + 3) _ (kp + 1) (((bs.take kp).flatMap Ban.cs) ++ b.cs) rfl rb88.out A2 (m - kp) (d - kp) ((bs.drop kp).flatMap Ban.cs) rfl HL2.out (hsrc.out _ N88.out.ext) (bans_one _) (by omega) N88.out.lt 53 rfl (m + 1) hmk ((insB bs b).flatMap Ban.cs) HE.out ?_; intro A9 c9 w89 op89 gp89; have N89 := Lib.hid (N88.out.grow gp89 rb88.out); have ri89 := Lib.hid (ri88.out.kept gp89 (own_types ri88.out rb88.out intBan)); have BX89 := Lib.hid (BX88.out.kept gp89 (own_types BX88.out rb88.out tabBan)); have rb89 := Lib.hid op89; clear op89 gp89; refine hK.out _ _ N89.out fun hHeld => ?_; clear hK K; (try simp only [Act.put, setIfInBounds_toArray, set_cons_zero, set_cons_succ])
         refine wpAnyH_take (i := 17) (v := ?_) rfl (by kernel_rfl) (by kernel_rfl) (by kernel_rfl) (fun _ _ _ h => h) (Or.inl ⟨by rfl, ?_⟩) hHeld ?_; rotate_left 1; (focus (intro w hSw; go_simp; (try with_reducible rfl))); (try simp only [Act.put, setIfInBounds_toArray, set_cons_zero, set_cons_succ])
         have BXF := Lib.hid BX89.out
         have NF := Lib.hid N89.out
         have RBF := Lib.hid rb89.out
         have RIF := Lib.hid ri89.out
         have zx : w.heap.size + 2 < w76.heap.size := lt86
         obtain ⟨xb, hxb⟩ : ∃ xb, w76.heap.size = xb := ⟨_, rfl⟩
         rw [hxb] at BXF zx
         rw [hxb]
         clear hxb
         obtain ⟨wz, hwz⟩ : ∃ wz, w89 = wz := ⟨_, rfl⟩
         rw [hwz] at BXF NF RBF RIF
         rw [hwz]
         clear hwz
        rotate_left 1
       rotate_left 4
       focus
        have NE := Lib.hid (show ∀ k, Value.ownBlock (.slice (some ⟨wc.heap.size, 0, none⟩) 0 0) = some k → k ≠ w75.heap.size from fun k hk => by have hh := (rb75.out.lt k hk).2; (try simp only [World.size_alloc, World.size_drew] at hh); omega)
        have ex90 := (Ext.refl (w75)).alloc (.cells #[.int .i64 b.A, .int .i64 b.X, .int .i64 b.B, .int .i64 b.Y] 61)
        have N90 := Lib.hid (N75.out.step ex90)
        go_simp; (try simp only [Act.put, setIfInBounds_toArray, set_cons_zero, set_cons_succ]); (try go_wp2_with fail); refine hK.out _ _ N90.out fun hHeld => ?_; clear hK K; (try simp only [Act.put, setIfInBounds_toArray, set_cons_zero, set_cons_succ])
        have bx90 := own_low' (own_block (w75) 61 [.int .i64 b.A, .int .i64 b.X, .int .i64 b.B, .int .i64 b.Y]) (Nat.zero_le _)
        have lt90 := N75.out.lt
        (try simp only [World.size_alloc, World.size_drew] at bx90 lt90)
        have rb90 := Lib.hid (ex90.own rb75.out)
        have ri90 := Lib.hid (ex90.own rin75.out)
        have rvn90 := Lib.hid bx90
        clear bx90 ex90
        refine wpAnyH_ready (rs := [8, 18]) (by kernel_rfl) (by simp) ?_; refine AllReadyH.cons rfl (fun K hK => ?_) (AllReadyH.cons rfl (fun K hK => ?_) (AllReadyH.nil))
        focus
         refine step_app_ban rfl (.tmp 40) (.tmp 44) rfl (w.heap.size + 3) _ 0 [] rfl rb90.out ⟨bb, off, none⟩ kp d ((bs.take kp).flatMap Ban.cs) rfl HL1.out (HS1.out _ N90.out.ext) (bans_one _) (by omega) N90.out.lt 45 rfl kp (Nat.zero_add kp) ((bs.take kp).flatMap Ban.cs) (List.nil_append _) ?_; intro Ap91 cp91 w91 op91 gp91; have N91 := Lib.hid (N90.out.grow gp91 rb90.out); have ri91 := Lib.hid (ri90.out.kept gp91 (own_types ri90.out rb90.out intBan)); have rv91 := Lib.hid (rvn90.out.kept gp91 (Or.inr (fun e => NE.out _ e.symm rfl))); have rb91 := Lib.hid op91; clear op91 gp91; refine hK.out _ _ N91.out fun hHeld => ?_; clear hK K; (try simp only [Act.put, setIfInBounds_toArray, set_cons_zero, set_cons_succ])
         refine wpAnyH_ready (rs := [11, 18]) (by kernel_rfl) (by simp) ?_; refine AllReadyH.cons rfl (fun K hK => ?_) (AllReadyH.cons rfl (fun K hK => ?_) (AllReadyH.nil))
         focus
          refine step_app_ban rfl (.tmp 45) (.tmp 47) rfl (w.heap.size + 3) _ kp ((bs.take kp).flatMap Ban.cs) rfl rb91.out ⟨w75.heap.size, 0, none⟩ 1 1 b.cs rfl (Ban.len b) (fun j u hj => by rw [Addr.add_mid, Nat.zero_add]; exact own_at rv91.out hj) HBO.out (by omega) N91.out.lt 48 rfl (kp + 1) rfl (((bs.take kp).flatMap Ban.cs) ++ b.cs) rfl ?_; intro Ap92 cp92 w92 op92 gp92; have N92 := Lib.hid (N91.out.grow gp92 rb91.out); have ri92 := Lib.hid (ri91.out.kept gp92 (own_types ri91.out rb91.out intBan)); have rb92 := Lib.hid op92; clear op92 gp92; refine hK.out _ _ N92.out fun hHeld => ?_; clear hK K; (try simp only [Act.put, setIfInBounds_toArray, set_cons_zero, set_cons_succ])
          refine wpAnyH_ready (rs := [16, 18]) (by kernel_rfl) (by simp) ?_; refine AllReadyH.cons rfl (fun K hK => ?_) (AllReadyH.cons rfl (fun K hK => ?_) (AllReadyH.nil))
          focus
           refine step_app_ban rfl (.tmp 48) (.tmp 52) rfl (w.heap.size + 3) _ (kp + 1) (((bs.take kp).flatMap Ban.cs) ++ b.cs) rfl rb92.out A2 (m - kp) (d - kp) ((bs.drop kp).flatMap Ban.cs) rfl HL2.out (hsrc.out _ N92.out.ext) (bans_one _) (by omega) N92.out.lt 53 rfl (m + 1) hmk ((insB bs b).flatMap Ban.cs) HE.out ?_; intro A9 c9 w93 op93 gp93; have N93 := Lib.hid (N92.out.grow gp93 rb92.out); have ri93 := Lib.hid (ri92.out.kept gp93 (own_types ri92.out rb92.out intBan)); have rb93 := Lib.hid op93; clear op93 gp93; refine hK.out _ _ N93.out fun hHeld => ?_; clear hK K; (try simp only [Act.put, setIfInBounds_toArray, set_cons_zero, set_cons_succ])
           refine wpAnyH_take (i := 17) (v := ?_) rfl (by kernel_rfl) (by kernel_rfl) (by kernel_rfl) (fun _ _ _ h => h) (Or.inl ⟨by rfl, ?_⟩) hHeld ?_; rotate_left 1; (focus (intro w hSw; go_simp; (try with_reducible rfl))); (try simp only [Act.put, setIfInBounds_toArray, set_cons_zero, set_cons_succ])
           have ex94 := (Ext.refl (w93)).alloc (.cells #[.slice none 0 0, .slice none 0 0] 27)
           have N94 := Lib.hid (N93.out.step ex94)
           refine rdy 18 (by kernel_rfl) rfl fun K hK => ?_; go_simp; (try simp only [Act.put, setIfInBounds_toArray, set_cons_zero, set_cons_succ]); (try go_wp2_with fail); refine hK.out _ _ N94.out fun hHeld => ?_; clear hK K; (try simp only [Act.put, setIfInBounds_toArray, set_cons_zero, set_cons_succ])
           have bx94 := own_low' (own_block (w93) 27 [.slice none 0 0, .slice none 0 0]) (Nat.zero_le _)
           have lt94 := N93.out.lt
           (try simp only [World.size_alloc, World.size_drew] at bx94 lt94)
           have rb94 := Lib.hid (ex94.own rb93.out)
           have ri94 := Lib.hid (ex94.own ri93.out)
           have BXn94 := Lib.hid bx94
           clear bx94 ex94
           have BXF := Lib.hid BXn94.out
           have NF := Lib.hid N94.out
           have RBF := Lib.hid rb94.out
           have RIF := Lib.hid ri94.out
           have zx : w.heap.size + 2 < w93.heap.size := lt94
           obtain ⟨xb, hxb⟩ : ∃ xb, w93.heap.size = xb := ⟨_, rfl⟩
           rw [hxb] at BXF zx
           rw [hxb]
           clear hxb
           obtain ⟨wz, hwz⟩ : ∃ wz, (w93.alloc (.cells #[.slice none 0 0, .slice none 0 0] 27)) = wz := ⟨_, rfl⟩
           rw [hwz] at BXF NF RBF RIF
           rw [hwz]
           clear hwz
          rotate_left 1
          focus
           have ex95 := (Ext.refl (w92)).alloc (.cells #[.slice none 0 0, .slice none 0 0] 27)
           have N95 := Lib.hid (N92.out.step ex95)
           go_simp; (try simp only [Act.put, setIfInBounds_toArray, set_cons_zero, set_cons_succ]); (try go_wp2_with fail); refine hK.out _ _ N95.out fun hHeld => ?_; clear hK K; (try simp only [Act.put, setIfInBounds_toArray, set_cons_zero, set_cons_succ])
           have bx95 := own_low' (own_block (w92) 27 [.slice none 0 0, .slice none 0 0]) (Nat.zero_le _)
           have lt95 := N92.out.lt
           (try simp only [World.size_alloc, World.size_drew] at bx95 lt95)
           have rb95 := Lib.hid (ex95.own rb92.out)
           have ri95 := Lib.hid (ex95.own ri92.out)
           have BXn95 := Lib.hid bx95
           clear bx95 ex95
           refine rdy 16 (by kernel_rfl) rfl fun K hK => ?_; refine step_app_ban rfl (.tmp 48) (.tmp 52) rfl (w.heap.size + 3) _ (kp + 1) (((bs.take kp).flatMap Ban.cs) ++ b.cs) rfl rb95.out A2 (m - kp) (d - kp) ((bs.drop kp).flatMap Ban.cs) rfl HL2.out (hsrc.out _ N95.out.ext) (bans_one _) (by omega) N95.out.lt 53 rfl (m + 1) hmk ((insB bs b).flatMap Ban.cs) HE.out ?_; intro A9 c9 w96 op96 gp96; have N96 := Lib.hid (N95.out.grow gp96 rb95.out); have ri96 := Lib.hid (ri95.out.kept gp96 (own_types ri95.out rb95.out intBan)); have BX96 := Lib.hid (BXn95.out.kept gp96 (own_types BXn95.out rb95.out tabBan)); have rb96 := Lib.hid op96; clear op96 gp96; refine hK.out _ _ N96.out fun hHeld => ?_; clear hK K; (try simp only [Act.put, setIfInBounds_toArray, set_cons_zero, set_cons_succ])
           refine wpAnyH_take (i := 17) (v := ?_) rfl (by kernel_rfl) (by kernel_rfl) (by kernel_rfl) (fun _ _ _ h => h) (Or.inl ⟨by rfl, ?_⟩) hHeld ?_; rotate_left 1; (focus (intro w hSw; go_simp; (try with_reducible rfl))); (try simp only [Act.put, setIfInBounds_toArray, set_cons_zero, set_cons_succ])
           have BXF := Lib.hid BX96.out
           have NF := Lib.hid N96.out
           have RBF := Lib.hid rb96.out
           have RIF := Lib.hid ri96.out
           have zx : w.heap.size + 2 < w92.heap.size := lt95
           obtain ⟨xb, hxb⟩ : ∃ xb, w92.heap.size = xb := ⟨_, rfl⟩
           rw [hxb] at BXF zx
           rw [hxb]
           clear hxb
           obtain ⟨wz, hwz⟩ : ∃ wz, w96 = wz := ⟨_, rfl⟩
           rw [hwz] at BXF NF RBF RIF
           rw [hwz]
           clear hwz
          rotate_left 1
         rotate_left 2
         focus
          have ex97 := (Ext.refl (w91)).alloc (.cells #[.slice none 0 0, .slice none 0 0] 27)
          have N97 := Lib.hid (N91.out.step ex97)
          go_simp; (try simp only [Act.put, setIfInBounds_toArray, set_cons_zero, set_cons_succ]); (try go_wp2_with fail); refine hK.out _ _ N97.out fun hHeld => ?_; clear hK K; (try simp only [Act.put, setIfInBounds_toArray, set_cons_zero, set_cons_succ])
          have bx97 := own_low' (own_block (w91) 27 [.slice none 0 0, .slice none 0 0]) (Nat.zero_le _)
          have lt97 := N91.out.lt
          (try simp only [World.size_alloc, World.size_drew] at bx97 lt97)
          have rb97 := Lib.hid (ex97.own rb91.out)
          have ri97 := Lib.hid (ex97.own ri91.out)
          have rv97 := Lib.hid (ex97.own rv91.out)
          have BXn97 := Lib.hid bx97
          clear bx97 ex97
          refine rdy 11 (by kernel_rfl) rfl fun K hK => ?_; refine step_app_ban rfl (.tmp 45) (.tmp 47) rfl (w.heap.size + 3) _ kp ((bs.take kp).flatMap Ban.cs) rfl rb97.out ⟨w75.heap.size, 0, none⟩ 1 1 b.cs rfl (Ban.len b) (fun j u hj => by rw [Addr.add_mid, Nat.zero_add]; exact own_at rv97.out hj) HBO.out (by omega) N97.out.lt 48 rfl (kp + 1) rfl (((bs.take kp).flatMap Ban.cs) ++ b.cs) rfl ?_; intro Ap98 cp98 w98 op98 gp98; have N98 := Lib.hid (N97.out.grow gp98 rb97.out); have ri98 := Lib.hid (ri97.out.kept gp98 (own_types ri97.out rb97.out intBan)); have BX98 := Lib.hid (BXn97.out.kept gp98 (own_types BXn97.out rb97.out tabBan)); have rb98 := Lib.hid op98; clear op98 gp98; refine hK.out _ _ N98.out fun hHeld => ?_; clear hK K; (try simp only [Act.put, setIfInBounds_toArray, set_cons_zero, set_cons_succ])
          refine rdy 16 (by kernel_rfl) rfl fun K hK => ?_; refine step_app_ban rfl (.tmp 48) (.tmp 52) rfl (w.heap.size + 3) _ (kp + 1) (((bs.take kp).flatMap Ban.cs) ++ b.cs) rfl rb98.out A2 (m - kp) (d - kp) ((bs.drop kp).flatMap Ban.cs) rfl HL2.out (hsrc.out _ N98.out.ext) (bans_one _) (by omega) N98.out.lt 53 rfl (m + 1) hmk ((insB bs b).flatMap Ban.cs) HE.out ?_; intro A9 c9 w99 op99 gp99; have N99 := Lib.hid (N98.out.grow gp99 rb98.out); have ri99 := Lib.hid (ri98.out.kept gp99 (own_types ri98.out rb98.out intBan)); have BX99 := Lib.hid (BX98.out.kept gp99 (own_types BX98.out rb98.out tabBan)); have rb99 := Lib.hid op99; clear op99 gp99; refine hK.out _ _ N99.out fun hHeld => ?_; clear hK K; (try simp only [Act.put, setIfInBounds_toArray, set_cons_zero, set_cons_succ])
          refine wpAnyH_take (i := 17) (v := ?_) rfl (by kernel_rfl) (by kernel_rfl) (by kernel_rfl) (fun _ _ _ h => h) (Or.inl ⟨by rfl, ?_⟩) hHeld ?_; rotate_left 1; (focus (intro w hSw; go_simp; (try with_reducible rfl))); (try simp only [Act.put, setIfInBounds_toArray, set_cons_zero, set_cons_succ])
          have BXF := Lib.hid BX99.out
          have NF := Lib.hid N99.out
          have RBF := Lib.hid rb99.out
          have RIF := Lib.hid ri99.out
          have zx : w.heap.size + 2 < w91.heap.size := lt97
          obtain ⟨xb, hxb⟩ : ∃ xb, w91.heap.size = xb := ⟨_, rfl⟩
          rw [hxb] at BXF zx
          rw [hxb]
          clear hxb
          obtain ⟨wz, hwz⟩ : ∃ wz, w99 = wz := ⟨_, rfl⟩
          rw [hwz] at BXF NF RBF RIF
          rw [hwz]
          clear hwz
         rotate_left 1
        rotate_left 3
        focus
         have ex100 := (Ext.refl ((w75.alloc (.cells #[.int .i64 b.A, .int .i64 b.X, .int .i64 b.B, .int .i64 b.Y] 61)))).alloc (.cells #[.slice none 0 0, .slice none 0 0] 27)
         have N100 := Lib.hid (N90.out.step ex100)
         go_simp; (try simp only [Act.put, setIfInBounds_toArray, set_cons_zero, set_cons_succ]); (try go_wp2_with fail); refine hK.out _ _ N100.out fun hHeld => ?_; clear hK K; (try simp only [Act.put, setIfInBounds_toArray, set_cons_zero, set_cons_succ])
         have bx100 := own_low' (own_block ((w75.alloc (.cells #[.int .i64 b.A, .int .i64 b.X, .int .i64 b.B, .int .i64 b.Y] 61))) 27 [.slice none 0 0, .slice none 0 0]) (Nat.zero_le _)
         have lt100 := N90.out.lt
         (try simp only [World.size_alloc, World.size_drew] at bx100 lt100)
         have rb100 := Lib.hid (ex100.own rb90.out)
         have ri100 := Lib.hid (ex100.own ri90.out)
         have rv100 := Lib.hid (ex100.own rvn90.out)
         have BXn100 := Lib.hid bx100
         clear bx100 ex100
         refine rdy 8 (by kernel_rfl) rfl fun K hK => ?_; refine step_app_ban rfl (.tmp 40) (.tmp 44) rfl (w.heap.size + 3) _ 0 [] rfl rb100.out ⟨bb, off, none⟩ kp d ((bs.take kp).flatMap Ban.cs) rfl HL1.out (HS1.out _ N100.out.ext) (bans_one _) (by omega) N100.out.lt 45 rfl kp (Nat.zero_add kp) ((bs.take kp).flatMap Ban.cs) (List.nil_append _) ?_; intro Ap101 cp101 w101 op101 gp101; have N101 := Lib.hid (N100.out.grow gp101 rb100.out); have ri101 := Lib.hid (ri100.out.kept gp101 (own_types ri100.out rb100.out intBan)); have rv101 := Lib.hid (rv100.out.kept gp101 (Or.inr (fun e => NE.out _ e.symm rfl))); have BX101 := Lib.hid (BXn100.out.kept gp101 (own_types BXn100.out rb100.out tabBan)); have rb101 := Lib.hid op101; clear op101 gp101; refine hK.out _ _ N101.out fun hHeld => ?_; clear hK K; (try simp only [Act.put, setIfInBounds_toArray, set_cons_zero, set_cons_succ])
         refine rdy 11 (by kernel_rfl) rfl fun K hK => ?_; refine step_app_ban rfl (.tmp 45) (.tmp 47) rfl (w.heap.size + 3) _ kp ((bs.take kp).flatMap Ban.cs) rfl rb101.out ⟨w75.heap.size, 0, none⟩ 1 1 b.cs rfl (Ban.len b) (fun j u hj => by rw [Addr.add_mid, Nat.zero_add]; exact own_at rv101.out hj) HBO.out (by omega) N101.out.lt 48 rfl (kp + 1) rfl (((bs.take kp).flatMap Ban.cs) ++ b.cs) rfl ?_; intro Ap102 cp102 w102 op102 gp102; have N102 := Lib.hid (N101.out.grow gp102 rb101.out); have ri102 := Lib.hid (ri101.out.kept gp102 (own_types ri101.out rb101.out intBan)); have BX102 := Lib.hid (BX101.out.kept gp102 (own_types BX101.out rb101.out tabBan)); have rb102 := Lib.hid op102; clear op102 gp102; refine hK.out _ _ N102.out fun hHeld => ?_; clear hK K; (try simp only [Act.put, setIfInBounds_toArray, set_cons_zero, set_cons_succ])
         refine rdy 16 (by kernel_rfl) rfl fun K hK => ?_; refine step_app_ban rfl (.tmp 48) (.tmp 52) rfl (w.heap.size + 3) _ (kp + 1) (((bs.take kp).flatMap Ban.cs) ++ b.cs) rfl rb102.out A2 (m - kp) (d - kp) ((bs.drop kp).flatMap Ban.cs) rfl HL2.out (hsrc.out _ N102.out.ext) (bans_one _) (by omega) N102.out.lt 53 rfl (m + 1) hmk ((insB bs b).flatMap Ban.cs) HE.out ?_; intro A9 c9 w103 op103 gp103; have N103 := Lib.hid (N102.out.grow gp103 rb102.out); have ri103 := Lib.hid (ri102.out.kept gp103 (own_types ri102.out rb102.out intBan)); have BX103 := Lib.hid (BX102.out.kept gp103 (own_types BX102.out rb102.out tabBan)); have rb103 := Lib.hid op103; clear op103 gp103; refine hK.out _ _ N103.out fun hHeld => ?_; clear hK K; (try simp only [Act.put, setIfInBounds_toArray, set_cons_zero, set_cons_succ])
         refine wpAnyH_take (i := 17) (v := ?_) rfl (by kernel_rfl) (by kernel_rfl) (by kernel_rfl) (fun _ _ _ h => h) (Or.inl ⟨by rfl, ?_⟩) hHeld ?_; rotate_left 1; (focus (intro w hSw; go_simp; (try with_reducible rfl))); (try simp only [Act.put, setIfInBounds_toArray, set_cons_zero, set_cons_succ])
         have BXF := Lib.hid BX103.out
         have NF := Lib.hid N103.out
         have RBF := Lib.hid rb103.out
         have RIF := Lib.hid ri103.out
         have zx : w.heap.size + 2 < (w75.heap.size + 1) := lt100
         obtain ⟨xb, hxb⟩ : ∃ xb, (w75.heap.size + 1) = xb := ⟨_, rfl⟩
         rw [hxb] at BXF zx
         rw [hxb]
         clear hxb
         obtain ⟨wz, hwz⟩ : ∃ wz, w103 = wz := ⟨_, rfl⟩
         rw [hwz] at BXF NF RBF RIF
         rw [hwz]
         clear hwz
        rotate_left 1
       rotate_left 4
       focus
        have ex104 := (Ext.refl (w75)).alloc (.cells #[.slice none 0 0, .slice none 0 0] 27)
        have N104 := Lib.hid (N75.out.step ex104)
        go_simp; (try simp only [Act.put, setIfInBounds_toArray, set_cons_zero, set_cons_succ]); (try go_wp2_with fail); refine hK.out _ _ N104.out fun hHeld => ?_; clear hK K; (try simp only [Act.put, setIfInBounds_toArray, set_cons_zero, set_cons_succ])
        have bx104 := own_low' (own_block (w75) 27 [.slice none 0 0, .slice none 0 0]) (Nat.zero_le _)
        have lt104 := N75.out.lt
        (try simp only [World.size_alloc, World.size_drew] at bx104 lt104)
        have rb104 := Lib.hid (ex104.own rb75.out)
        have ri104 := Lib.hid (ex104.own rin75.out)
        have BXn104 := Lib.hid bx104
        clear bx104 ex104
        refine wpAnyH_ready (rs := [8, 10]) (by kernel_rfl) (by simp) ?_; refine AllReadyH.cons rfl (fun K hK => ?_) (AllReadyH.cons rfl (fun K hK => ?_) (AllReadyH.nil))
        focus
         refine step_app_ban rfl (.tmp 40) (.tmp 44) rfl (w.heap.size + 3) _ 0 [] rfl rb104.out ⟨bb, off, none⟩ kp d ((bs.take kp).flatMap Ban.cs) rfl HL1.out (HS1.out _ N104.out.ext) (bans_one _) (by omega) N104.out.lt 45 rfl kp (Nat.zero_add kp) ((bs.take kp).flatMap Ban.cs) (List.nil_append _) ?_; intro Ap105 cp105 w105 op105 gp105; have N105 := Lib.hid (N104.out.grow gp105 rb104.out); have ri105 := Lib.hid (ri104.out.kept gp105 (own_types ri104.out rb104.out intBan)); have BX105 := Lib.hid (BXn104.out.kept gp105 (own_types BXn104.out rb104.out tabBan)); have rb105 := Lib.hid op105; clear op105 gp105; refine hK.out _ _ N105.out fun hHeld => ?_; clear hK K; (try simp only [Act.put, setIfInBounds_toArray, set_cons_zero, set_cons_succ])
         have NE := Lib.hid (show ∀ k, Value.ownBlock (.slice Ap105 kp cp105) = some k → k ≠ w105.heap.size from fun k hk => by have hh := (rb105.out.lt k hk).2; (try simp only [World.size_alloc, World.size_drew] at hh); omega)
         have ex106 := (Ext.refl (w105)).alloc (.cells #[.int .i64 b.A, .int .i64 b.X, .int .i64 b.B, .int .i64 b.Y] 61)
         have N106 := Lib.hid (N105.out.step ex106)
         refine rdy 10 (by kernel_rfl) rfl fun K hK => ?_; go_simp; (try simp only [Act.put, setIfInBounds_toArray, set_cons_zero, set_cons_succ]); (try go_wp2_with fail); refine hK.out _ _ N106.out fun hHeld => ?_; clear hK K; (try simp only [Act.put, setIfInBounds_toArray, set_cons_zero, set_cons_succ])
         have bx106 := own_low' (own_block (w105) 61 [.int .i64 b.A, .int .i64 b.X, .int .i64 b.B, .int .i64 b.Y]) (Nat.zero_le _)
         have lt106 := N105.out.lt
         (try simp only [World.size_alloc, World.size_drew] at bx106 lt106)
         have rb106 := Lib.hid (ex106.own rb105.out)
         have ri106 := Lib.hid (ex106.own ri105.out)
         have BX106 := Lib.hid (ex106.own BX105.out)
         have rvn106 := Lib.hid bx106
         clear bx106 ex106
         refine rdy 11 (by kernel_rfl) rfl fun K hK => ?_; refine step_app_ban rfl (.tmp 45) (.tmp 47) rfl (w.heap.size + 3) _ kp ((bs.take kp).flatMap Ban.cs) rfl rb106.out ⟨w105.heap.size, 0, none⟩ 1 1 b.cs rfl (Ban.len b) (fun j u hj => by rw [Addr.add_mid, Nat.zero_add]; exact own_at rvn106.out hj) HBO.out (by omega) N106.out.lt 48 rfl (kp + 1) rfl (((bs.take kp).flatMap Ban.cs) ++ b.cs) rfl ?_; intro Ap107 cp107 w107 op107 gp107; have N107 := Lib.hid (N106.out.grow gp107 rb106.out); have ri107 := Lib.hid (ri106.out.kept gp107 (own_types ri106.out rb106.out intBan)); have BX107 := Lib.hid (BX106.out.kept gp107 (own_types BX106.out rb106.out tabBan)); have rb107 := Lib.hid op107; clear op107 gp107; refine hK.out _ _ N107.out fun hHeld => ?_; clear hK K; (try simp only [Act.put, setIfInBounds_toArray, set_cons_zero, set_cons_succ])
         refine rdy 16 (by kernel_rfl) rfl fun K hK => ?_; refine step_app_ban rfl (.tmp 48) (.tmp 52) rfl (w.heap.size + 3) _ (kp + 1) (((bs.take kp).flatMap Ban.cs) ++ b.cs) rfl rb107.out A2 (m - kp) (d - kp) ((bs.drop kp).flatMap Ban.cs) rfl HL2.out (hsrc.out _ N107.out.ext) (bans_one _) (by omega) N107.out.lt 53 rfl (m + 1) hmk ((insB bs b).flatMap Ban.cs) HE.out ?_; intro A9 c9 w108 op108 gp108; have N108 := Lib.hid (N107.out.grow gp108 rb107.out); have ri108 := Lib.hid (ri107.out.kept gp108 (own_types ri107.out rb107.out intBan)); have BX108 := Lib.hid (BX107.out.kept gp108 (own_types BX107.out rb107.out tabBan)); have rb108 := Lib.hid op108; clear op108 gp108; refine hK.out _ _ N108.out fun hHeld => ?_; clear hK K; (try simp only [Act.put, setIfInBounds_toArray, set_cons_zero, set_cons_succ])
         refine wpAnyH_take (i := 17) (v := ?_) rfl (by kernel_rfl) (by kernel_rfl) (by kernel_rfl) (fun _ _ _ h => h) (Or.inl ⟨by rfl, ?_⟩) hHeld ?_; rotate_left 1; (focus (intro w hSw; go_simp; (try with_reducible rfl))); (try simp only [Act.put, setIfInBounds_toArray, set_cons_zero, set_cons_succ])
         have BXF := Lib.hid BX108.out
         have NF := Lib.hid N108.out
         have RBF := Lib.hid rb108.out
         have RIF := Lib.hid ri108.out
         have zx : w.heap.size + 2 < w75.heap.size := lt104
         obtain ⟨xb, hxb⟩ : ∃ xb, w75.heap.size = xb := ⟨_, rfl⟩
         rw [hxb] at BXF zx
         rw [hxb]
         clear hxb
         obtain ⟨wz, hwz⟩ : ∃ wz, w108 = wz := ⟨_, rfl⟩
         rw [hwz] at BXF NF RBF RIF
         rw [hwz]
         clear hwz
        rotate_left 1
        focus
         have NE := Lib.hid (show ∀ k, Value.ownBlock (.slice (some ⟨wc.heap.size, 0, none⟩) 0 0) = some k → k ≠ (w75.heap.size + 1) from fun k hk => by have hh := (rb104.out.lt k hk).2; (try simp only [World.size_alloc, World.size_drew] at hh); omega)
         have ex109 := (Ext.refl ((w75.alloc (.cells #[.slice none 0 0, .slice none 0 0] 27)))).alloc (.cells #[.int .i64 b.A, .int .i64 b.X, .int .i64 b.B, .int .i64 b.Y] 61)
         have N109 := Lib.hid (N104.out.step ex109)
         go_simp; (try simp only [Act.put, setIfInBounds_toArray, set_cons_zero, set_cons_succ]); (try go_wp2_with fail); refine hK.out _ _ N109.out fun hHeld => ?_; clear hK K; (try simp only [Act.put, setIfInBounds_toArray, set_cons_zero, set_cons_succ])
         have bx109 := own_low' (own_block ((w75.alloc (.cells #[.slice none 0 0, .slice none 0 0] 27))) 61 [.int .i64 b.A, .int .i64 b.X, .int .i64 b.B, .int .i64 b.Y]) (Nat.zero_le _)
         have lt109 := N104.out.lt
         (try simp only [World.size_alloc, World.size_drew] at bx109 lt109)
         have rb109 := Lib.hid (ex109.own rb104.out)
         have ri109 := Lib.hid (ex109.own ri104.out)
         have BX109 := Lib.hid (ex109.own BXn104.out)
         have rvn109 := Lib.hid bx109
         clear bx109 ex109
         refine rdy 8 (by kernel_rfl) rfl fun K hK => ?_; refine step_app_ban rfl (.tmp 40) (.tmp 44) rfl (w.heap.size + 3) _ 0 [] rfl rb109.out ⟨bb, off, none⟩ kp d ((bs.take kp).flatMap Ban.cs) rfl HL1.out (HS1.out _ N109.out.ext) (bans_one _) (by omega) N109.out.lt 45 rfl kp (Nat.zero_add kp) ((bs.take kp).flatMap Ban.cs) (List.nil_append _) ?_; intro Ap110 cp110 w110 op110 gp110; have N110 := Lib.hid (N109.out.grow gp110 rb109.out); have ri110 := Lib.hid (ri109.out.kept gp110 (own_types ri109.out rb109.out intBan)); have BX110 := Lib.hid (BX109.out.kept gp110 (own_types BX109.out rb109.out tabBan)); have rv110 := Lib.hid (rvn109.out.kept gp110 (Or.inr (fun e => NE.out _ e.symm rfl))); have rb110 := Lib.hid op110; clear op110 gp110; refine hK.out _ _ N110.out fun hHeld => ?_; clear hK K; (try simp only [Act.put, setIfInBounds_toArray, set_cons_zero, set_cons_succ])
         refine rdy 11 (by kernel_rfl) rfl fun K hK => ?_; refine step_app_ban rfl (.tmp 45) (.tmp 47) rfl (w.heap.size + 3) _ kp ((bs.take kp).flatMap Ban.cs) rfl rb110.out ⟨(w75.heap.size + 1), 0, none⟩ 1 1 b.cs rfl (Ban.len b) (fun j u hj => by rw [Addr.add_mid, Nat.zero_add]; exact own_at rv110.out hj) HBO.out (by omega) N110.out.lt 48 rfl (kp + 1) rfl (((bs.take kp).flatMap Ban.cs) ++ b.cs) rfl ?_; intro Ap111 cp111 w111 op111 gp111; have N111 := Lib.hid (N110.out.grow gp111 rb110.out); have ri111 := Lib.hid (ri110.out.kept gp111 (own_types ri110.out rb110.out intBan)); have BX111 := Lib.hid (BX110.out.kept gp111 (own_types BX110.out rb110.out tabBan)); have rb111 := Lib.hid op111; clear op111 gp111; refine hK.out _ _ N111.out fun hHeld => ?_; clear hK K; (try simp only [Act.put, setIfInBounds_toArray, set_cons_zero, set_cons_succ])
         refine rdy 16 (by kernel_rfl) rfl fun K hK => ?_; refine step_app_ban rfl (.tmp 48) (.tmp 52) rfl (w.heap.size + 3) _ (kp + 1) (((bs.take kp).flatMap Ban.cs) ++ b.cs) rfl rb111.out A2 (m - kp) (d - kp) ((bs.drop kp).flatMap Ban.cs) rfl HL2.out (hsrc.out _ N111.out.ext) (bans_one _) (by omega) N111.out.lt 53 rfl (m + 1) hmk ((insB bs b).flatMap Ban.cs) HE.out ?_; intro A9 c9 w112 op112 gp112; have N112 := Lib.hid (N111.out.grow gp112 rb111.out); have ri112 := Lib.hid (ri111.out.kept gp112 (own_types ri111.out rb111.out intBan)); have BX112 := Lib.hid (BX111.out.kept gp112 (own_types BX111.out rb111.out tabBan)); have rb112 := Lib.hid op112; clear op112 gp112; refine hK.out _ _ N112.out fun hHeld => ?_; clear hK K; (try simp only [Act.put, setIfInBounds_toArray, set_cons_zero, set_cons_succ])
         refine wpAnyH_take (i := 17) (v := ?_) rfl (by kernel_rfl) (by kernel_rfl) (by kernel_rfl) (fun _ _ _ h => h) (Or.inl ⟨by rfl, ?_⟩) hHeld ?_; rotate_left 1; (focus (intro w hSw; go_simp; (try with_reducible rfl))); (try simp only [Act.put, setIfInBounds_toArray, set_cons_zero, set_cons_succ])
         have BXF := Lib.hid BX112.out
         have NF := Lib.hid N112.out
         have RBF := Lib.hid rb112.out
         have RIF := Lib.hid ri112.out
         have zx : w.heap.size + 2 < w75.heap.size := lt104
         obtain ⟨xb, hxb⟩ : ∃ xb, w75.heap.size = xb := ⟨_, rfl⟩
         rw [hxb] at BXF zx
         rw [hxb]
         clear hxb
         obtain ⟨wz, hwz⟩ : ∃ wz, w112 = wz := ⟨_, rfl⟩
         rw [hwz] at BXF NF RBF RIF
         rw [hwz]
         clear hwz
        rotate_left 1
       rotate_left 2
      rotate_left 10
      focus
       have NE := Lib.hid (show ∀ k, Value.ownBlock (.slice (some ⟨wc.heap.size, 0, none⟩) 0 0) = some k → k ≠ (wc.heap.size + 1) from fun k hk => by have hh := (rbn74.out.lt k hk).2; (try simp only [World.size_alloc, World.size_drew] at hh); omega)
       have ex113 := (Ext.refl ((wc.drew.alloc (.cells #[] 61)))).alloc (.cells #[.int .i64 b.A, .int .i64 b.X, .int .i64 b.B, .int .i64 b.Y] 61)
       have N113 := Lib.hid (N74.out.step ex113)
       go_simp; (try simp only [Act.put, setIfInBounds_toArray, set_cons_zero, set_cons_succ]); (try go_wp2_with fail); refine hK.out _ _ N113.out fun hHeld => ?_; clear hK K; (try simp only [Act.put, setIfInBounds_toArray, set_cons_zero, set_cons_succ])
       have bx113 := own_low' (own_block ((wc.drew.alloc (.cells #[] 61))) 61 [.int .i64 b.A, .int .i64 b.X, .int .i64 b.B, .int .i64 b.Y]) (Nat.zero_le _)
       have lt113 := N74.out.lt
       (try simp only [World.size_alloc, World.size_drew] at bx113 lt113)
       have rb113 := Lib.hid (ex113.own rbn74.out)
       have rvn113 := Lib.hid bx113
       clear bx113 ex113
       refine wpAnyH_ready (rs := [2, 18]) (by kernel_rfl) (by simp) ?_; refine AllReadyH.cons rfl (fun K hK => ?_) (AllReadyH.cons rfl (fun K hK => ?_) (AllReadyH.nil))
       focus
        go_simp; (try simp only [Act.put, setIfInBounds_toArray, set_cons_zero, set_cons_succ]); (try go_wp2_with (go_at_call 66; refine (l1Own_any aa n c ss _ hn (h.sr.ext N113.out.ext)).mono ?_; rintro e w114 ⟨A1, c1, rfl, oc114, he1⟩)); refine hK.out _ _ (N113.out.step he1) fun hHeld => ?_; clear hK K; (try simp only [Act.put, setIfInBounds_toArray, set_cons_zero, set_cons_succ])
        have rb114 := Lib.hid (he1.own rb113.out)
        have rv114 := Lib.hid (he1.own rvn113.out)
        have N114 := Lib.hid (N113.out.step he1)
        have rin114 := Lib.hid (own_low' oc114 (show w.heap.size + 3 ≤ _ from N113.out.lt))
        clear oc114 he1
        refine wpAnyH_ready (rs := [8, 18]) (by kernel_rfl) (by simp) ?_; refine AllReadyH.cons rfl (fun K hK => ?_) (AllReadyH.cons rfl (fun K hK => ?_) (AllReadyH.nil))
        focus
         refine step_app_ban rfl (.tmp 40) (.tmp 44) rfl (w.heap.size + 3) _ 0 [] rfl rb114.out ⟨bb, off, none⟩ kp d ((bs.take kp).flatMap Ban.cs) rfl HL1.out (HS1.out _ N114.out.ext) (bans_one _) (by omega) N114.out.lt 45 rfl kp (Nat.zero_add kp) ((bs.take kp).flatMap Ban.cs) (List.nil_append _) ?_; intro Ap115 cp115 w115 op115 gp115; have N115 := Lib.hid (N114.out.grow gp115 rb114.out); have rv115 := Lib.hid (rv114.out.kept gp115 (Or.inr (fun e => NE.out _ e.symm rfl))); have ri115 := Lib.hid (rin114.out.kept gp115 (own_types rin114.out rb114.out intBan)); have rb115 := Lib.hid op115; clear op115 gp115; refine hK.out _ _ N115.out fun hHeld => ?_; clear hK K; (try simp only [Act.put, setIfInBounds_toArray, set_cons_zero, set_cons_succ])
         refine wpAnyH_ready (rs := [11, 18]) (by kernel_rfl) (by simp) ?_; refine AllReadyH.cons rfl (fun K hK => ?_) (AllReadyH.cons rfl (fun K hK => ?_) (AllReadyH.nil))
         focus
          refine step_app_ban rfl (.tmp 45) (.tmp 47) rfl (w.heap.size + 3) _ kp ((bs.take kp).flatMap Ban.cs) rfl rb115.out ⟨(wc.heap.size + 1), 0, none⟩ 1 1 b.cs rfl (Ban.len b) (fun j u hj => by rw [Addr.add_mid, Nat.zero_add]; exact own_at rv115.out hj) HBO.out (by omega) N115.out.lt 48 rfl (kp + 1) rfl (((bs.take kp).flatMap Ban.cs) ++ b.cs) rfl ?_; intro Ap116 cp116 w116 op116 gp116; have N116 := Lib.hid (N115.out.grow gp116 rb115.out); have ri116 := Lib.hid (ri115.out.kept gp116 (own_types ri115.out rb115.out intBan)); have rb116 := Lib.hid op116; clear op116 gp116; refine hK.out _ _ N116.out fun hHeld => ?_; clear hK K; (try simp only [Act.put, setIfInBounds_toArray, set_cons_zero, set_cons_succ])
          refine wpAnyH_ready (rs := [16, 18]) (by kernel_rfl) (by simp) ?_; refine AllReadyH.cons rfl (fun K hK => ?_) (AllReadyH.cons rfl (fun K hK => ?_) (AllReadyH.nil))
          focus
           refine step_app_ban rfl (.tmp 48) (.tmp 52) rfl (w.heap.size + 3) _ (kp + 1) (((bs.take kp).flatMap Ban.cs) ++ b.cs) rfl rb116.out A2 (m - kp) (d - kp) ((bs.drop kp).flatMap Ban.cs) rfl HL2.out (hsrc.out _ N116.out.ext) (bans_one _) (by omega) N116.out.lt 53 rfl (m + 1) hmk ((insB bs b).flatMap Ban.cs) HE.out ?_; intro A9 c9 w117 op117 gp117; have N117 := Lib.hid (N116.out.grow gp117 rb116.out); have ri117 := Lib.hid (ri116.out.kept gp117 (own_types ri116.out rb116.out intBan)); have rb117 := Lib.hid op117; clear op117 gp117; refine hK.out _ _ N117.out fun hHeld => ?_; clear hK K; (try simp only [Act.put, setIfInBounds_toArray, set_cons_zero, set_cons_succ])
           refine wpAnyH_take (i := 17) (v := ?_) rfl (by kernel_rfl) (by kernel_rfl) (by kernel_rfl) (fun _ _ _ h => h) (Or.inl ⟨by rfl, ?_⟩) hHeld ?_; rotate_left 1; (focus (intro w hSw; go_simp; (try with_reducible rfl))); (try simp only [Act.put, setIfInBounds_toArray, set_cons_zero, set_cons_succ])
           have ex118 := (Ext.refl (w117)).alloc (.cells #[.slice none 0 0, .slice none 0 0] 27)
           have N118 := Lib.hid (N117.out.step ex118)
           refine rdy 18 (by kernel_rfl) rfl fun K hK => ?_; go_simp; (try simp only [Act.put, setIfInBounds_toArray, set_cons_zero, set_cons_succ]); (try go_wp2_with fail); refine hK.out _ _ N118.out fun hHeld => ?_; clear hK K; (try simp only [Act.put, setIfInBounds_toArray, set_cons_zero, set_cons_succ])
           have bx118 := own_low' (own_block (w117) 27 [.slice none 0 0, .slice none 0 0]) (Nat.zero_le _)
           have lt118 := N117.out.lt
           (try simp only [World.size_alloc, World.size_drew] at bx118 lt118)
           have rb118 := Lib.hid (ex118.own rb117.out)
           have ri118 := Lib.hid (ex118.own ri117.out)
           have BXn118 := Lib.hid bx118
           clear bx118 ex118
           have BXF := Lib.hid BXn118.out
           have NF := Lib.hid N118.out
           have RBF := Lib.hid rb118.out
           have RIF := Lib.hid ri118.out
           have zx : w.heap.size + 2 < w117.heap.size := lt118
           obtain ⟨xb, hxb⟩ : ∃ xb, w117.heap.size = xb := ⟨_, rfl⟩
           rw [hxb] at BXF zx
           rw [hxb]
           clear hxb
           obtain ⟨wz, hwz⟩ : ∃ wz, (w117.alloc (.cells #[.slice none 0 0, .slice none 0 0] 27)) = wz := ⟨_, rfl⟩
           rw [hwz] at BXF NF RBF RIF
           rw [hwz]
           clear hwz
          rotate_left 1
          focus
           have ex119 := (Ext.refl (w116)).alloc (.cells #[.slice none 0 0, .slice none 0 0] 27)
           have N119 := Lib.hid (N116.out.step ex119)
           go_simp; (try simp only [Act.put, setIfInBounds_toArray, set_cons_zero, set_cons_succ]); (try go_wp2_with fail); refine hK.out _ _ N119.out fun hHeld => ?_; clear hK K; (try simp only [Act.put, setIfInBounds_toArray, set_cons_zero, set_cons_succ])
           have bx119 := own_low' (own_block (w116) 27 [.slice none 0 0, .slice none 0 0]) (Nat.zero_le _)
           have lt119 := N116.out.lt
           (try simp only [World.size_alloc, World.size_drew] at bx119 lt119)
           have rb119 := Lib.hid (ex119.own rb116.out)
           have ri119 := Lib.hid (ex119.own ri116.out)
           have BXn119 := Lib.hid bx119
           clear bx119 ex119
           refine rdy 16 (by kernel_rfl) rfl fun K hK => ?_; refine step_app_ban rfl (.tmp 48) (.tmp 52) rfl (w.heap.size + 3) _ (kp + 1) (((bs.take kp).flatMap Ban.cs) ++ b.cs) rfl rb119.out A2 (m - kp) (d - kp) ((bs.drop kp).flatMap Ban.cs) rfl HL2.out (hsrc.out _ N119.out.ext) (bans_one _) (by omega) N119.out.lt 53 rfl (m + 1) hmk ((insB bs b).flatMap Ban.cs) HE.out ?_; intro A9 c9 w120 op120 gp120; have N120 := Lib.hid (N119.out.grow gp120 rb119.out); have ri120 := Lib.hid (ri119.out.kept gp120 (own_types ri119.out rb119.out intBan)); have BX120 := Lib.hid (BXn119.out.kept gp120 (own_types BXn119.out rb119.out tabBan)); have rb120 := Lib.hid op120; clear op120 gp120; refine hK.out _ _ N120.out fun hHeld => ?_; clear hK K; (try simp only [Act.put, setIfInBounds_toArray, set_cons_zero, set_cons_succ])
           refine wpAnyH_take (i := 17) (v := ?_) rfl (by kernel_rfl) (by kernel_rfl) (by kernel_rfl) (fun _ _ _ h => h) (Or.inl ⟨by rfl, ?_⟩) hHeld ?_; rotate_left 1; (focus (intro w hSw; go_simp; (try with_reducible rfl))); (try simp only [Act.put, setIfInBounds_toArray, set_cons_zero, set_cons_succ])
           have BXF := Lib.hid BX120.out
           have NF := Lib.hid N120.out
           have RBF := Lib.hid rb120.out
           have RIF := Lib.hid ri120.out
           have zx : w.heap.size + 2 < w116.heap.size := lt119
           obtain ⟨xb, hxb⟩ : ∃ xb, w116.heap.size = xb := ⟨_, rfl⟩
           rw [hxb] at BXF zx
           rw [hxb]
           clear hxb
           obtain ⟨wz, hwz⟩ : ∃ wz, w120 = wz := ⟨_, rfl⟩
           rw [hwz] at BXF NF RBF RIF
           rw [hwz]
           clear hwz
          rotate_left 1
         rotate_left 2
         focus
          have ex121 := (Ext.refl (w115)).alloc (.cells #[.slice none 0 0, .slice none 0 0] 27)
          have N121 := Lib.hid (N115.out.step ex121)
          go_simp; (try simp only [Act.put, setIfInBounds_toArray, set_cons_zero, set_cons_succ]); (try go_wp2_with fail); refine hK.out _ _ N121.out fun hHeld => ?_; clear hK K; (try simp only [Act.put, setIfInBounds_toArray, set_cons_zero, set_cons_succ])
          have bx121 := own_low' (own_block (w115) 27 [.slice none 0 0, .slice none 0 0]) (Nat.zero_le _)
          have lt121 := N115.out.lt
          (try simp only [World.size_alloc, World.size_drew] at bx121 lt121)
          have rb121 := Lib.hid (ex121.own rb115.out)
          have rv121 := Lib.hid (ex121.own rv115.out)
          have ri121 := Lib.hid (ex121.own ri115.out)
          have BXn121 := Lib.hid bx121
          clear bx121 ex121
          refine rdy 11 (by kernel_rfl) rfl fun K hK => ?_; refine step_app_ban rfl (.tmp 45) (.tmp 47) rfl (w.heap.size + 3) _ kp ((bs.take kp).flatMap Ban.cs) rfl rb121.out ⟨(wc.heap.size + 1), 0, none⟩ 1 1 b.cs rfl (Ban.len b) (fun j u hj => by rw [Addr.add_mid, Nat.zero_add]; exact own_at rv121.out hj) HBO.out (by omega) N121.out.lt 48 rfl (kp + 1) rfl (((bs.take kp).flatMap Ban.cs) ++ b.cs) rfl ?_; intro Ap122 cp122 w122 op122 gp122; have N122 := Lib.hid (N121.out.grow gp122 rb121.out); have ri122 := Lib.hid (ri121.out.kept gp122 (own_types ri121.out rb121.out intBan)); have BX122 := Lib.hid (BXn121.out.kept gp122 (own_types BXn121.out rb121.out tabBan)); have rb122 := Lib.hid op122; clear op122 gp122; refine hK.out _ _ N122.out fun hHeld => ?_; clear hK K; (try simp only [Act.put, setIfInBounds_toArray, set_cons_zero, set_cons_succ])
          refine rdy 16 (by kernel_rfl) rfl fun K hK => ?_; refine step_app_ban rfl (.tmp 48) (.tmp 52) rfl (w.heap.size + 3) _ (kp + 1) (((bs.take kp).flatMap Ban.cs) ++ b.cs) rfl rb122.out A2 (m - kp) (d - kp) ((bs.drop kp).flatMap Ban.cs) rfl HL2.out (hsrc.out _ N122.out.ext) (bans_one _) (by omega) N122.out.lt 53 rfl (m + 1) hmk ((insB bs b).flatMap Ban.cs) HE.out ?_; intro A9 c9 w123 op123 gp123; have N123 := Lib.hid (N122.out.grow gp123 rb122.out); have ri123 := Lib.hid (ri122.out.kept gp123 (own_types ri122.out rb122.out intBan)); have BX123 := Lib.hid (BX122.out.kept gp123 (own_types BX122.out rb122.out tabBan)); have rb123 := Lib.hid op123; clear op123 gp123; refine hK.out _ _ N123.out fun hHeld => ?_; clear hK K; (try simp only [Act.put, setIfInBounds_toArray, set_cons_zero, set_cons_succ])
          refine wpAnyH_take (i := 17) (v := ?_) rfl (by kernel_rfl) (by kernel_rfl) (by kernel_rfl) (fun _ _ _ h => h) (Or.inl ⟨by rfl, ?_⟩) hHeld ?_; rotate_left 1; (focus (intro w hSw; go_simp; (try with_reducible rfl))); (try simp only [Act.put, setIfInBounds_toArray, set_cons_zero, set_cons_succ])
          have BXF := Lib.hid BX123.out
          have NF := Lib.hid N123.out
          have RBF := Lib.hid rb123.out
          have RIF := Lib.hid ri123.out
          have zx : w.heap.size + 2 < w115.heap.size := lt121
          obtain ⟨xb, hxb⟩ : ∃ xb, w115.heap.size = xb := ⟨_, rfl⟩
          rw [hxb] at BXF zx
          rw [hxb]
          clear hxb
          obtain ⟨wz, hwz⟩ : ∃ wz, w123 = wz := ⟨_, rfl⟩
          rw [hwz] at BXF NF RBF RIF
          rw [hwz]
          clear hwz
         rotate_left 1
        rotate_left 3
        focus
         have ex124 := (Ext.refl (w114)).alloc (.cells #[.slice none 0 0, .slice none 0 0] 27)
         have N124 := Lib.hid (N114.out.step ex124)
         go_simp; (try simp only [Act.put, setIfInBounds_toArray, set_cons_zero, set_cons_succ]); (try go_wp2_with fail); refine hK.out _ _ N124.out fun hHeld => ?_; clear hK K; (try simp only [Act.put, setIfInBounds_toArray, set_cons_zero, set_cons_succ])
         have bx124 := own_low' (own_block (w114) 27 [.slice none 0 0, .slice none 0 0]) (Nat.zero_le _)
         have lt124 := N114.out.lt
         (try simp only [World.size_alloc, World.size_drew] at bx124 lt124)
         have rb124 := Lib.hid (ex124.own rb114.out)
         have rv124 := Lib.hid (ex124.own rv114.out)
         have ri124 := Lib.hid (ex124.own rin114.out)
         have BXn124 := Lib.hid bx124
         clear bx124 ex124
         refine rdy 8 (by kernel_rfl) rfl fun K hK => ?_; refine step_app_ban rfl (.tmp 40) (.tmp 44) rfl (w.heap.size + 3) _ 0 [] rfl rb124.out ⟨bb, off, none⟩ kp d ((bs.take kp).flatMap Ban.cs) rfl HL1.out (HS1.out _ N124.out.ext) (bans_one _) (by omega) N124.out.lt 45 rfl kp (Nat.zero_add kp) ((bs.take kp).flatMap Ban.cs) (List.nil_append _) ?_; intro Ap125 cp125 w125 op125 gp125; have N125 := Lib.hid (N124.out.grow gp125 rb124.out); have rv125 := Lib.hid (rv124.out.kept gp125 (Or.inr (fun e => NE.out _ e.symm rfl))); have ri125 := Lib.hid (ri124.out.kept gp125 (own_types ri124.out rb124.out intBan)); have BX125 := Lib.hid (BXn124.out.kept gp125 (own_types BXn124.out rb124.out tabBan)); have rb125 := Lib.hid op125; clear op125 gp125; refine hK.out _ _ N125.out fun hHeld => ?_; clear hK K; (try simp only [Act.put, setIfInBounds_toArray, set_cons_zero, set_cons_succ])
         refine rdy 11 (by kernel_rfl) rfl fun K hK => ?_; refine step_app_ban rfl (.tmp 45) (.tmp 47) rfl (w.heap.size + 3) _ kp ((bs.take kp).flatMap Ban.cs) rfl rb125.out ⟨(wc.heap.size + 1), 0, none⟩ 1 1 b.cs rfl (Ban.len b) (fun j u hj => by rw [Addr.add_mid, Nat.zero_add]; exact own_at rv125.out hj) HBO.out (by omega) N125.out.lt 48 rfl (kp + 1) rfl (((bs.take kp).flatMap Ban.cs) ++ b.cs) rfl ?_; intro Ap126 cp126 w126 op126 gp126; have N126 := Lib.hid (N125.out.grow gp126 rb125.out); have ri126 := Lib.hid (ri125.out.kept gp126 (own_types ri125.out rb125.out intBan)); have BX126 := Lib.hid (BX125.out.kept gp126 (own_types BX125.out rb125.out tabBan)); have rb126 := Lib.hid op126; clear op126 gp126; refine hK.out _ _ N126.out fun hHeld => ?_; clear hK K; (try simp only [Act.put, setIfInBounds_toArray, set_cons_zero, set_cons_succ])
         refine rdy 16 (by kernel_rfl) rfl fun K hK => ?_; refine step_app_ban rfl (.tmp 48) (.tmp 52) rfl (w.heap.size + 3) _ (kp + 1) (((bs.take kp).flatMap Ban.cs) ++ b.cs) rfl rb126.out A2 (m - kp) (d - kp) ((bs.drop kp).flatMap Ban.cs) rfl HL2.out (hsrc.out _ N126.out.ext) (bans_one _) (by omega) N126.out.lt 53 rfl (m + 1) hmk ((insB bs b).flatMap Ban.cs) HE.out ?_; intro A9 c9 w127 op127 gp127; have N127 := Lib.hid (N126.out.grow gp127 rb126.out); have ri127 := Lib.hid (ri126.out.kept gp127 (own_types ri126.out rb126.out intBan)); have BX127 := Lib.hid (BX126.out.kept gp127 (own_types BX126.out rb126.out tabBan)); have rb127 := Lib.hid op127; clear op127 gp127; refine hK.out _ _ N127.out fun hHeld => ?_; clear hK K; (try simp only [Act.put, setIfInBounds_toArray, set_cons_zero, set_cons_succ])
         refine wpAnyH_take (i := 17) (v := ?_) rfl (by kernel_rfl) (by kernel_rfl) (by kernel_rfl) (fun _ _ _ h => h) (Or.inl ⟨by rfl, ?_⟩) hHeld ?_; rotate_left 1; (focus (intro w hSw; go_simp; (try with_reducible rfl))); (try simp only [Act.put, setIfInBounds_toArray, set_cons_zero, set_cons_succ])
         have BXF := Lib.hid BX127.out
         have NF := Lib.hid N127.out
         have RBF := Lib.hid rb127.out
         have RIF := Lib.hid ri127.out
         have zx : w.heap.size + 2 < w114.heap.size := lt124
         obtain ⟨xb, hxb⟩ : ∃ xb, w114.heap.size = xb := ⟨_, rfl⟩
         rw [hxb] at BXF zx
         rw [hxb]
         clear hxb
         obtain ⟨wz, hwz⟩ : ∃ wz, w127 = wz := ⟨_, rfl⟩
         rw [hwz] at BXF NF RBF RIF
         rw [hwz]
         clear hwz
        rotate_left 1
       rotate_left 4
       focus
        have ex128 := (Ext.refl (((wc.drew.alloc (.cells #[] 61)).alloc (.cells #[.int .i64 b.A, .int .i64 b.X, .int .i64 b.B, .int .i64 b.Y] 61)))).alloc (.cells #[.slice none 0 0, .slice none 0 0] 27)
        have N128 := Lib.hid (N113.out.step ex128)
        go_simp; (try simp only [Act.put, setIfInBounds_toArray, set_cons_zero, set_cons_succ]); (try go_wp2_with fail); refine hK.out _ _ N128.out fun hHeld => ?_; clear hK K; (try simp only [Act.put, setIfInBounds_toArray, set_cons_zero, set_cons_succ])
        have bx128 := own_low' (own_block (((wc.drew.alloc (.cells #[] 61)).alloc (.cells #[.int .i64 b.A, .int .i64 b.X, .int .i64 b.B, .int .i64 b.Y] 61))) 27 [.slice none 0 0, .slice none 0 0]) (Nat.zero_le _)
        have lt128 := N113.out.lt
        (try simp only [World.size_alloc, World.size_drew] at bx128 lt128)
        have rb128 := Lib.hid (ex128.own rb113.out)
        have rv128 := Lib.hid (ex128.own rvn113.out)
        have BXn128 := Lib.hid bx128
        clear bx128 ex128
        refine rdy 2 (by kernel_rfl) rfl fun K hK => ?_; go_simp; (try simp only [Act.put, setIfInBounds_toArray, set_cons_zero, set_cons_succ]); (try go_wp2_with (go_at_call 66; refine (l1Own_any aa n c ss _ hn (h.sr.ext N128.out.ext)).mono ?_; rintro e w129 ⟨A1, c1, rfl, oc129, he1⟩)); refine hK.out _ _ (N128.out.step he1) fun hHeld => ?_; clear hK K; (try simp only [Act.put, setIfInBounds_toArray, set_cons_zero, set_cons_succ])
        have rb129 := Lib.hid (he1.own rb128.out)
        have rv129 := Lib.hid (he1.own rv128.out)
        have BX129 := Lib.hid (he1.own BXn128.out)
        have N129 := Lib.hid (N128.out.step he1)
        have rin129 := Lib.hid (own_low' oc129 (show w.heap.size + 3 ≤ _ from N128.out.lt))
        clear oc129 he1
        refine rdy 8 (by kernel_rfl) rfl fun K hK => ?_; refine step_app_ban rfl (.tmp 40) (.tmp 44) rfl (w.heap.size + 3) _ 0 [] rfl rb129.out ⟨bb, off, none⟩ kp d ((bs.take kp).flatMap Ban.cs) rfl HL1.out (HS1.out _ N129.out.ext) (bans_one _) (by omega) N129.out.lt 45 rfl kp (Nat.zero_add kp) ((bs.take kp).flatMap Ban.cs) (List.nil_append _) ?_; intro Ap130 cp130 w130 op130 gp130; have N130 := Lib.hid (N129.out.grow gp130 rb129.out); have rv130 := Lib.hid (rv129.out.kept gp130 (Or.inr (fun e => NE.out _ e.symm rfl))); have BX130 := Lib.hid (BX129.out.kept gp130 (own_types BX129.out rb129.out tabBan)); have ri130 := Lib.hid (rin129.out.kept gp130 (own_types rin129.out rb129.out intBan)); have rb130 := Lib.hid op130; clear op130 gp130; refine hK.out _ _ N130.out fun hHeld => ?_; clear hK K; (try simp only [Act.put, setIfInBounds_toArray, set_cons_zero, set_cons_succ])
        refine rdy 11 (by kernel_rfl) rfl fun K hK => ?_; refine step_app_ban rfl (.tmp 45) (.tmp 47) rfl (w.heap.size + 3) _ kp ((bs.take kp).flatMap Ban.cs) rfl rb130.out ⟨(wc.heap.size + 1), 0, none⟩ 1 1 b.cs rfl (Ban.len b) (fun j u hj => by rw [Addr.add_mid, Nat.zero_add]; exact own_at rv130.out hj) HBO.out (by omega) N130.out.lt 48 rfl (kp + 1) rfl (((bs.take kp).flatMap Ban.cs) ++ b.cs) rfl ?_; intro Ap131 cp131 w131 op131 gp131; have N131 := Lib.hid (N130.out.grow gp131 rb130.out); have BX131 := Lib.hid (BX130.out.kept gp131 (own_types BX130.out rb130.out tabBan)); have ri131 := Lib.hid (ri130.out.kept gp131 (own_types ri130.out rb130.out intBan)); have rb131 := Lib.hid op131; clear op131 gp131; refine hK.out _ _ N131.out fun hHeld => ?_; clear hK K; (try simp only [Act.put, setIfInBounds_toArray, set_cons_zero, set_cons_succ])
        refine rdy 16 (by kernel_rfl) rfl fun K hK => ?_; refine step_app_ban rfl (.tmp 48) (.tmp 52) rfl (w.heap.size + 3) _ (kp + 1) (((bs.take kp).flatMap Ban.cs) ++ b.cs) rfl rb131.out A2 (m - kp) (d - kp) ((bs.drop kp).flatMap Ban.cs) rfl HL2.out (hsrc.out _ N131.out.ext) (bans_one _) (by omega) N131.out.lt 53 rfl (m + 1) hmk ((insB bs b).flatMap Ban.cs) HE.out ?_; intro A9 c9 w132 op132 gp132; have N132 := Lib.hid (N131.out.grow gp132 rb131.out); have BX132 := Lib.hid (BX131.out.kept gp132 (own_types BX131.out rb131.out tabBan)); have ri132 := Lib.hid (ri131.out.kept gp132 (own_types ri131.out rb131.out intBan)); have rb132 := Lib.hid op132; clear op132 gp132; refine hK.out _ _ N132.out fun hHeld => ?_; clear hK K; (try simp only [Act.put, setIfInBounds_toArray, set_cons_zero, set_cons_succ])
        refine wpAnyH_take (i := 17) (v := ?_) rfl (by kernel_rfl) (by kernel_rfl) (by kernel_rfl) (fun _ _ _ h => h) (Or.inl ⟨by rfl, ?_⟩) hHeld ?_; rotate_left 1; (focus (intro w hSw; go_simp; (try with_reducible rfl))); (try simp only [Act.put, setIfInBounds_toArray, set_cons_zero, set_cons_succ])
        have BXF := Lib.hid BX132.out
        have NF := Lib.hid N132.out
        have RBF := Lib.hid rb132.out
        have RIF := Lib.hid ri132.out
        have zx : w.heap.size + 2 < ((wc.heap.size + 1) + 1) := lt128
        obtain ⟨xb, hxb⟩ : ∃ xb, ((wc.heap.size + 1) + 1) = xb := ⟨_, rfl⟩
        rw [hxb] at BXF zx
        rw [hxb]
        clear hxb
        obtain ⟨wz, hwz⟩ : ∃ wz, w132 = wz := ⟨_, rfl⟩
        rw [hwz] at BXF NF RBF RIF
        rw [hwz]
        clear hwz
       rotate_left 1
      rotate_left 5
      focus
       have ex133 := (Ext.refl ((wc.drew.alloc (.cells #[] 61)))).alloc (.cells #[.slice none 0 0, .slice none 0 0] 27)
       have N133 := Lib.hid (N74.out.step ex133)
       go_simp; (try simp only [Act.put, setIfInBounds_toArray, set_cons_zero, set_cons_succ]); (try go_wp2_with fail); refine hK.out _ _ N133.out fun hHeld => ?_; clear hK K; (try simp only [Act.put, setIfInBounds_toArray, set_cons_zero, set_cons_succ])
       have bx133 := own_low' (own_block ((wc.drew.alloc (.cells #[] 61))) 27 [.slice none 0 0, .slice none 0 0]) (Nat.zero_le _)
       have lt133 := N74.out.lt
       (try simp only [World.size_alloc, World.size_drew] at bx133 lt133)
       have rb133 := Lib.hid (ex133.own rbn74.out)
       have BXn133 := Lib.hid bx133
       clear bx133 ex133
       refine wpAnyH_ready (rs := [2, 10]) (by kernel_rfl) (by simp) ?_; refine AllReadyH.cons rfl (fun K hK => ?_) (AllReadyH.cons rfl (fun K hK => ?_) (AllReadyH.nil))
       focus
        go_simp; (try simp only [Act.put, setIfInBounds_toArray, set_cons_zero, set_cons_succ]); (try go_wp2_with (go_at_call 66; refine (l1Own_any aa n c ss _ hn (h.sr.ext N133.out.ext)).mono ?_; rintro e w134 ⟨A1, c1, rfl, oc134, he1⟩)); refine hK.out _ _ (N133.out.step he1) fun hHeld => ?_; clear hK K; (try simp only [Act.put, setIfInBounds_toArray, set_cons_zero, set_cons_succ])
        have rb134 := Lib.hid (he1.own rb133.out)
        have BX134 := Lib.hid (he1.own BXn133.out)
        have N134 := Lib.hid (N133.out.step he1)
        have rin134 := Lib.hid (own_low' oc134 (show w.heap.size + 3 ≤ _ from N133.out.lt))
        clear oc134 he1
        refine wpAnyH_ready (rs := [8, 10]) (by kernel_rfl) (by simp) ?_; refine AllReadyH.cons rfl (fun K hK => ?_) (AllReadyH.cons rfl (fun K hK => ?_) (AllReadyH.nil))
        focus
         refine step_app_ban rfl (.tmp 40) (.tmp 44) rfl (w.heap.size + 3) _ 0 [] rfl rb134.out ⟨bb, off, none⟩ kp d ((bs.take kp).flatMap Ban.cs) rfl HL1.out (HS1.out _ N134.out.ext) (bans_one _) (by omega) N134.out.lt 45 rfl kp (Nat.zero_add kp) ((bs.take kp).flatMap Ban.cs) (List.nil_append _) ?_; intro Ap135 cp135 w135 op135 gp135; have N135 := Lib.hid (N134.out.grow gp135 rb134.out); have BX135 := Lib.hid (BX134.out.kept gp135 (own_types BX134.out rb134.out tabBan)); have ri135 := Lib.hid (rin134.out.kept gp135 (own_types rin134.out rb134.out intBan)); have rb135 := Lib.hid op135; clear op135 gp135; refine hK.out _ _ N135.out fun hHeld => ?_; clear hK K; (try simp only [Act.put, setIfInBounds_toArray, set_cons_zero, set_cons_succ])
         have NE := Lib.hid (show ∀ k, Value.ownBlock (.slice Ap135 kp cp135) = some k → k ≠ w135.heap.size from fun k hk => by have hh := (rb135.out.lt k hk).2; (try simp only [World.size_alloc, World.size_drew] at hh); omega)
         have ex136 := (Ext.refl (w135)).alloc (.cells #[.int .i64 b.A, .int .i64 b.X, .int .i64 b.B, .int .i64 b.Y] 61)
         have N136 := Lib.hid (N135.out.step ex136)
         refine rdy 10 (by kernel_rfl) rfl fun K hK => ?_; go_simp; (try simp only [Act.put, setIfInBounds_toArray, set_cons_zero, set_cons_succ]); (try go_wp2_with fail); refine hK.out _ _ N136.out fun hHeld => ?_; clear hK K; (try simp only [Act.put, setIfInBounds_toArray, set_cons_zero, set_cons_succ])
         have bx136 := own_low' (own_block (w135) 61 [.int .i64 b.A, .int .i64 b.X, .int .i64 b.B, .int .i64 b.Y]) (Nat.zero_le _)
         have lt136 := N135.out.lt
         (try simp only [World.size_alloc, World.size_drew] at bx136 lt136)
         have rb136 := Lib.hid (ex136.own rb135.out)
         have BX136 := Lib.hid (ex136.own BX135.out)
         have ri136 := Lib.hid (ex136.own ri135.out)
         have rvn136 := Lib.hid bx136
         clear bx136 ex136
         refine rdy 11 (by kernel_rfl) rfl fun K hK => ?_; refine step_app_ban rfl (.tmp 45) (.tmp 47) rfl (w.heap.size + 3) _ kp ((bs.take kp).flatMap Ban.cs) rfl rb136.out ⟨w135.heap.size, 0, none⟩ 1 1 b.cs rfl (Ban.len b) (fun j u hj => by rw [Addr.add_mid, Nat.zero_add]; exact own_at rvn136.out hj) HBO.out (by omega) N136.out.lt 48 rfl (kp + 1) rfl (((bs.take kp).flatMap Ban.cs) ++ b.cs) rfl ?_; intro Ap137 cp137 w137 op137 gp137; have N137 := Lib.hid (N136.out.grow gp137 rb136.out); have BX137 := Lib.hid (BX136.out.kept gp137 (own_types BX136.out rb136.out tabBan)); have ri137 := Lib.hid (ri136.out.kept gp137 (own_types ri136.out rb136.out intBan)); have rb137 := Lib.hid op137; clear op137 gp137; refine hK.out _ _ N137.out fun hHeld => ?_; clear hK K; (try simp only [Act.put, setIfInBounds_toArray, set_cons_zero, set_cons_succ])
         refine rdy 16 (by kernel_rfl) rfl fun K hK => ?_; refine step_app_ban rfl (.tmp 48) (.tmp 52) rfl (w.heap.size + 3) _ (kp + 1) (((bs.take kp).flatMap Ban.cs) ++ b.cs) rfl rb137.out A2 (m - kp) (d - kp) ((bs.drop kp).flatMap Ban.cs) rfl HL2.out (hsrc.out _ N137.out.ext) (bans_one _) (by omega) N137.out.lt 53 rfl (m + 1) hmk ((insB bs b).flatMap Ban.cs) HE.out ?_; intro A9 c9 w138 op138 gp138; have N138 := Lib.hid (N137.out.grow gp138 rb137.out); have BX138 := Lib.hid (BX137.out.kept gp138 (own_types BX137.out rb137.out tabBan)); have ri138 := Lib.hid (ri137.out.kept gp138 (own_types ri137.out rb137.out intBan)); have rb138 := Lib.hid op138; clear op138 gp138; refine hK.out _ _ N138.out fun hHeld => ?_; clear hK K; (try simp only [Act.put, setIfInBounds_toArray, set_cons_zero, set_cons_succ])
         refine wpAnyH_take (i := 17) (v := ?_) rfl (by kernel_rfl) (by kernel_rfl) (by kernel_rfl) (fun _ _ _ h => h) (Or.inl ⟨by rfl, ?_⟩) hHeld ?_; rotate_left 1; (focus (intro w hSw; go_simp; (try with_reducible rfl))); (try simp only [Act.put, setIfInBounds_toArray, set_cons_zero, set_cons_succ])
         have BXF := Lib.hid BX138.out
         have NF := Lib.hid N138.out
         have RBF := Lib.hid rb138.out
         have RIF := Lib.hid ri138.out
         have zx : w.heap.size + 2 < (wc.heap.size + 1) := lt133
         obtain ⟨xb, hxb⟩ : ∃ xb, (wc.heap.size + 1) = xb := ⟨_, rfl⟩
         rw [hxb] at BXF zx
         rw [hxb]
         clear hxb
         obtain ⟨wz, hwz⟩ : ∃ wz, w138 = wz := ⟨_, rfl⟩
         rw [hwz] at BXF NF RBF RIF
         rw [hwz]
         clear hwz
        rotate_left 1
        focus
         have NE := Lib.hid (show ∀ k, Value.ownBlock (.slice (some ⟨wc.heap.size, 0, none⟩) 0 0) = some k → k ≠ w134.heap.size from fun k hk => by have hh := (rb134.out.lt k hk).2; (try simp only [World.size_alloc, World.size_drew] at hh); omega)
         have ex139 := (Ext.refl (w134)).alloc (.cells #[.int .i64 b.A, .int .i64 b.X, .int .i64 b.B, .int .i64 b.Y] 61)
         have N139 := Lib.hid (N134.out.step ex139)
         go_simp; (try simp only [Act.put, setIfInBounds_toArray, set_cons_zero, set_cons_succ]); (try go_wp2_with fail); refine hK.out _ _ N139.out fun hHeld => ?_; clear hK K; (try simp only [Act.put, setIfInBounds_toArray, set_cons_zero, set_cons_succ])
         have bx139 := own_low' (own_block (w134) 61 [.int .i64 b.A, .int .i64 b.X, .int .i64 b.B, .int .i64 b.Y]) (Nat.zero_le _)
         have lt139 := N134.out.lt
         (try simp only [World.size_alloc, World.size_drew] at bx139 lt139)
         have rb139 := Lib.hid (ex139.own rb134.out)
         have BX139 := Lib.hid (ex139.own BX134.out)
         have ri139 := Lib.hid (ex139.own rin134.out)
         have rvn139 := Lib.hid bx139
         clear bx139 ex139
         refine rdy 8 (by kernel_rfl) rfl fun K hK => ?_; refine step_app_ban rfl (.tmp 40) (.tmp 44) rfl (w.heap.size + 3) _ 0 [] rfl rb139.out ⟨bb, off, none⟩ kp d ((bs.take kp).flatMap Ban.cs) rfl HL1.out (HS1.out _ N139.out.ext) (bans_one _) (by omega) N139.out.lt 45 rfl kp (Nat.zero_add kp) ((bs.take kp).flatMap Ban.cs) (List.nil_append _) ?_; intro Ap140 cp140 w140 op140 gp140; have N140 := Lib.hid (N139.out.grow gp140 rb139.out); have BX140 := Lib.hid (BX139.out.kept gp140 (own_types BX139.out rb139.out tabBan)); have ri140 := Lib.hid (ri139.out.kept gp140 (own_types ri139.out rb139.out intBan)); have rv140 := Lib.hid (rvn139.out.kept gp140 (Or.inr (fun e => NE.out _ e.symm rfl))); have rb140 := Lib.hid op140; clear op140 gp140; refine hK.out _ _ N140.out fun hHeld => ?_; clear hK K; (try simp only [Act.put, setIfInBounds_toArray, set_cons_zero, set_cons_succ])
         refine rdy 11 (by kernel_rfl) rfl fun K hK => ?_; refine step_app_ban rfl (.tmp 45) (.tmp 47) rfl (w.heap.size + 3) _ kp ((bs.take kp).flatMap Ban.cs) rfl rb140.out ⟨w134.heap.size, 0, none⟩ 1 1 b.cs rfl (Ban.len b) (fun j u hj => by rw [Addr.add_mid, Nat.zero_add]; exact own_at rv140.out hj) HBO.out (by omega) N140.out.lt 48 rfl (kp + 1) rfl (((bs.take kp).flatMap Ban.cs) ++ b.cs) rfl ?_; intro Ap141 cp141 w141 op141 gp141; have N141 := Lib.hid (N140.out.grow gp141 rb140.out); have BX141 := Lib.hid (BX140.out.kept gp141 (own_types BX140.out rb140.out tabBan)); have ri141 := Lib.hid (ri140.out.kept gp141 (own_types ri140.out rb140.out intBan)); have rb141 := Lib.hid op141; clear op141 gp141; refine hK.out _ _ N141.out fun hHeld => ?_; clear hK K; (try simp only [Act.put, setIfInBounds_toArray, set_cons_zero, set_cons_succ])
         refine rdy 16 (by kernel_rfl) rfl fun K hK => ?_; refine step_app_ban rfl (.tmp 48) (.tmp 52) rfl (w.heap.size + 3) _ (kp + 1) (((bs.take kp).flatMap Ban.cs) ++ b.cs) rfl rb141.out A2 (m - kp) (d - kp) ((bs.drop kp).flatMap Ban.cs) rfl HL2.out (hsrc.out _ N141.out.ext) (bans_one _) (by omega) N141.out.lt 53 rfl (m + 1) hmk ((insB bs b).flatMap Ban.cs) HE.out ?_; intro A9 c9 w142 op142 gp142; have N142 := Lib.hid (N141.out.grow gp142 rb141.out); have BX142 := Lib.hid (BX141.out.kept gp142 (own_types BX141.out rb141.out tabBan)); have ri142 := Lib.hid (ri141.out.kept gp142 (own_types ri141.out rb141.out intBan)); have rb142 := Lib.hid op142; clear op142 gp142; refine hK.out _ _ N142.out fun hHeld => ?_; clear hK K; (try simp only [Act.put, setIfInBounds_toArray, set_cons_zero, set_cons_succ])
         refine wpAnyH_take (i := 17) (v := ?_) rfl (by kernel_rfl) (by kernel_rfl) (by kernel_rfl) (fun _ _ _ h => h) (Or.inl ⟨by rfl, ?_⟩) hHeld ?_; rotate_left 1; (focus (intro w hSw; go_simp; (try with_reducible rfl))); (try simp only [Act.put, setIfInBounds_toArray, set_cons_zero, set_cons_succ])
         have BXF := Lib.hid BX142.out
         have NF := Lib.hid N142.out
         have RBF := Lib.hid rb142.out
         have RIF := Lib.hid ri142.out
         have zx : w.heap.size + 2 < (wc.heap.size + 1) := lt133
         obtain ⟨xb, hxb⟩ : ∃ xb, (wc.heap.size + 1) = xb := ⟨_, rfl⟩
         rw [hxb] at BXF zx
         rw [hxb]
         clear hxb
         obtain ⟨wz, hwz⟩ : ∃ wz, w142 = wz := ⟨_, rfl⟩
         rw [hwz] at BXF NF RBF RIF
         rw [hwz]
         clear hwz
        rotate_left 1
       rotate_left 2
       focus
        have NE := Lib.hid (show ∀ k, Value.ownBlock (.slice (some ⟨wc.heap.size, 0, none⟩) 0 0) = some k → k ≠ ((wc.heap.size + 1) + 1) from fun k hk => by have hh := (rb133.out.lt k hk).2; (try simp only [World.size_alloc, World.size_drew] at hh); omega)
        have ex143 := (Ext.refl (((wc.drew.alloc (.cells #[] 61)).alloc (.cells #[.slice none 0 0, .slice none 0 0] 27)))).alloc (.cells #[.int .i64 b.A, .int .i64 b.X, .int .i64 b.B, .int .i64 b.Y] 61)
        have N143 := Lib.hid (N133.out.step ex143)
        go_simp; (try simp only [Act.put, setIfInBounds_toArray, set_cons_zero, set_cons_succ]); (try go_wp2_with fail); refine hK.out _ _ N143.out fun hHeld => ?_; clear hK K; (try simp only [Act.put, setIfInBounds_toArray, set_cons_zero, set_cons_succ])
        have bx143 := own_low' (own_block (((wc.drew.alloc (.cells #[] 61)).alloc (.cells #[.slice none 0 0, .slice none 0 0] 27))) 61 [.int .i64 b.A, .int .i64 b.X, .int .i64 b.B, .int .i64 b.Y]) (Nat.zero_le _)
        have lt143 := N133.out.lt
        (try simp only [World.size_alloc, World.size_drew] at bx143 lt143)
        have rb143 := Lib.hid (ex143.own rb133.out)
        have BX143 := Lib.hid (ex143.own BXn133.out)
        have rvn143 := Lib.hid bx143
        clear bx143 ex143
        refine rdy 2 (by kernel_rfl) rfl fun K hK => ?_; go_simp; (try simp only [Act.put, setIfInBounds_toArray, set_cons_zero, set_cons_succ]); (try go_wp2_with (go_at_call 66; refine (l1Own_any aa n c ss _ hn (h.sr.ext N143.out.ext)).mono ?_; rintro e w144 ⟨A1, c1, rfl, oc144, he1⟩)); refine hK.out _ _ (N143.out.step he1) fun hHeld => ?_; clear hK K; (try simp only [Act.put, setIfInBounds_toArray, set_cons_zero, set_cons_succ])
        have rb144 := Lib.hid (he1.own rb143.out)
        have BX144 := Lib.hid (he1.own BX143.out)
        have rv144 := Lib.hid (he1.own rvn143.out)
        have N144 := Lib.hid (N143.out.step he1)
        have rin144 := Lib.hid (own_low' oc144 (show w.heap.size + 3 ≤ _ from N143.out.lt))
        clear oc144 he1
        refine rdy 8 (by kernel_rfl) rfl fun K hK => ?_; refine step_app_ban rfl (.tmp 40) (.tmp 44) rfl (w.heap.size + 3) _ 0 [] rfl rb144.out ⟨bb, off, none⟩ kp d ((bs.take kp).flatMap Ban.cs) rfl HL1.out (HS1.out _ N144.out.ext) (bans_one _) (by omega) N144.out.lt 45 rfl kp (Nat.zero_add kp) ((bs.take kp).flatMap Ban.cs) (List.nil_append _) ?_; intro Ap145 cp145 w145 op145 gp145; have N145 := Lib.hid (N144.out.grow gp145 rb144.out); have BX145 := Lib.hid (BX144.out.kept gp145 (own_types BX144.out rb144.out tabBan)); have rv145 := Lib.hid (rv144.out.kept gp145 (Or.inr (fun e => NE.out _ e.symm rfl))); have ri145 := Lib.hid (rin144.out.kept gp145 (own_types rin144.out rb144.out intBan)); have rb145 := Lib.hid op145; clear op145 gp145; refine hK.out _ _ N145.out fun hHeld => ?_; clear hK K; (try simp only [Act.put, setIfInBounds_toArray, set_cons_zero, set_cons_succ])
        refine rdy 11 (by kernel_rfl) rfl fun K hK => ?_; refine step_app_ban rfl (.tmp 45) (.tmp 47) rfl (w.heap.size + 3) _ kp ((bs.take kp).flatMap Ban.cs) rfl rb145.out ⟨((wc.heap.size + 1) + 1), 0, none⟩ 1 1 b.cs rfl (Ban.len b) (fun j u hj => by rw [Addr.add_mid, Nat.zero_add]; exact own_at rv145.out hj) HBO.out (by omega) N145.out.lt 48 rfl (kp + 1) rfl (((bs.take kp).flatMap Ban.cs) ++ b.cs) rfl ?_; intro Ap146 cp146 w146 op146 gp146; have N146 := Lib.hid (N145.out.grow gp146 rb145.out); have BX146 := Lib.hid (BX145.out.kept gp146 (own_types BX145.out rb145.out tabBan)); have ri146 := Lib.hid (ri145.out.kept gp146 (own_types ri145.out rb145.out intBan)); have rb146 := Lib.hid op146; clear op146 gp146; refine hK.out _ _ N146.out fun hHeld => ?_; clear hK K; (try simp only [Act.put, setIfInBounds_toArray, set_cons_zero, set_cons_succ])
        refine rdy 16 (by kernel_rfl) rfl fun K hK => ?_; refine step_app_ban rfl (.tmp 48) (.tmp 52) rfl (w.heap.size + 3) _ (kp + 1) (((bs.take kp).flatMap Ban.cs) ++ b.cs) rfl rb146.out A2 (m - kp) (d - kp) ((bs.drop kp).flatMap Ban.cs) rfl HL2.out (hsrc.out _ N146.out.ext) (bans_one _) (by omega) N146.out.lt 53 rfl (m + 1) hmk ((insB bs b).flatMap Ban.cs) HE.out ?_; intro A9 c9 w147 op147 gp147; have N147 := Lib.hid (N146.out.grow gp147 rb146.out); have BX147 := Lib.hid (BX146.out.kept gp147 (own_types BX146.out rb146.out tabBan)); have ri147 := Lib.hid (ri146.out.kept gp147 (own_types ri146.out rb146.out intBan)); have rb147 := Lib.hid op147; clear op147 gp147; refine hK.out _ _ N147.out fun hHeld => ?_; clear hK K; (try simp only [Act.put, setIfInBounds_toArray, set_cons_zero, set_cons_succ])
        refine wpAnyH_take (i := 17) (v := ?_) rfl (by kernel_rfl) (by kernel_rfl) (by kernel_rfl) (fun _ _ _ h => h) (Or.inl ⟨by rfl, ?_⟩) hHeld ?_; rotate_left 1; (focus (intro w hSw; go_simp; (try with_reducible rfl))); (try simp only [Act.put, setIfInBounds_toArray, set_cons_zero, set_cons_succ])
        have BXF := Lib.hid BX147.out
        have NF := Lib.hid N147.out
        have RBF := Lib.hid rb147.out
        have RIF := Lib.hid ri147.out
        have zx : w.heap.size + 2 < (wc.heap.size + 1) := lt133
        obtain ⟨xb, hxb⟩ : ∃ xb, (wc.heap.size + 1) = xb := ⟨_, rfl⟩
        rw [hxb] at BXF zx
        rw [hxb]
        clear hxb
        obtain ⟨wz, hwz⟩ : ∃ wz, w147 = wz := ⟨_, rfl⟩
        rw [hwz] at BXF NF RBF RIF
        rw [hwz]
        clear hwz
       rotate_left 1
      rotate_left 3
     rotate_left 18
     focus
      have ex148 := (Ext.refl (wc.drew)).alloc (.cells #[.int .i64 b.A, .int .i64 b.X, .int .i64 b.B, .int .i64 b.Y] 61)
      have N148 := Lib.hid (N2.out.step ex148)
      go_simp; (try simp only [Act.put, setIfInBounds_toArray, set_cons_zero, set_cons_succ]); (try go_wp2_with fail); refine hK.out _ _ N148.out fun hHeld => ?_; clear hK K; (try simp only [Act.put, setIfInBounds_toArray, set_cons_zero, set_cons_succ])
      have bx148 := own_low' (own_block (wc.drew) 61 [.int .i64 b.A, .int .i64 b.X, .int .i64 b.B, .int .i64 b.Y]) (Nat.zero_le _)
      have lt148 := N2.out.lt
      (try simp only [World.size_alloc, World.size_drew] at bx148 lt148)
      have rvn148 := Lib.hid bx148
      clear bx148 ex148
      refine wpAnyH_ready (rs := [2, 3, 18]) (by kernel_rfl) (by simp) ?_; refine AllReadyH.cons rfl (fun K hK => ?_) (AllReadyH.cons rfl (fun K hK => ?_) (AllReadyH.cons rfl (fun K hK => ?_) (AllReadyH.nil)))
      focus
       go_simp; (try simp only [Act.put, setIfInBounds_toArray, set_cons_zero, set_cons_succ]); (try go_wp2_with (go_at_call 66; refine (l1Own_any aa n c ss _ hn (h.sr.ext N148.out.ext)).mono ?_; rintro e w149 ⟨A1, c1, rfl, oc149, he1⟩)); refine hK.out _ _ (N148.out.step he1) fun hHeld => ?_; clear hK K; (try simp only [Act.put, setIfInBounds_toArray, set_cons_zero, set_cons_succ])
       have rv149 := Lib.hid (he1.own rvn148.out)
       have N149 := Lib.hid (N148.out.step he1)
       have rin149 := Lib.hid (own_low' oc149 (show w.heap.size + 3 ≤ _ from N148.out.lt))
       clear oc149 he1
       refine wpAnyH_ready (rs := [3, 18]) (by kernel_rfl) (by simp) ?_; refine AllReadyH.cons rfl (fun K hK => ?_) (AllReadyH.cons rfl (fun K hK => ?_) (AllReadyH.nil))
       focus
        have ltv150 := (rv149.out.lt _ rfl).2
        (try simp only [World.size_alloc, World.size_drew] at ltv150)
        have ex150 := (Ext.refl (w149)).alloc (.cells #[] 61)
        have N150 := Lib.hid (N149.out.step ex150)
        go_simp; (try simp only [Act.put, setIfInBounds_toArray, set_cons_zero, set_cons_succ]); (try go_wp2_with fail); refine hK.out _ _ N150.out fun hHeld => ?_; clear hK K; (try simp only [Act.put, setIfInBounds_toArray, set_cons_zero, set_cons_succ])
        have bx150 := own_empty (w149) (w.heap.size + 3) 61 4 (show w.heap.size + 3 ≤ _ from N149.out.lt)
        have lt150 := N149.out.lt
        (try simp only [World.size_alloc, World.size_drew] at bx150 lt150)
        have rv150 := Lib.hid (ex150.own rv149.out)
        have ri150 := Lib.hid (ex150.own rin149.out)
        have rbn150 := Lib.hid bx150
        clear bx150 ex150
        have NE := Lib.hid (show ∀ k, Value.ownBlock (.slice (some ⟨w149.heap.size, 0, none⟩) 0 0) = some k → k ≠ wc.heap.size from fun k hk => by have h2 : some (w149.heap.size) = some k := hk; injection h2 with h2; have h3 := ltv150; omega)
        refine wpAnyH_ready (rs := [8, 18]) (by kernel_rfl) (by simp) ?_; refine AllReadyH.cons rfl (fun K hK => ?_) (AllReadyH.cons rfl (fun K hK => ?_) (AllReadyH.nil))
        focus
         refine step_app_ban rfl (.tmp 40) (.tmp 44) rfl (w.heap.size + 3) _ 0 [] rfl rbn150.out ⟨bb, off, none⟩ kp d ((bs.take kp).flatMap Ban.cs) rfl HL1.out (HS1.out _ N150.out.ext) (bans_one _) (by omega) N150.out.lt 45 rfl kp (Nat.zero_add kp) ((bs.take kp).flatMap Ban.cs) (List.nil_append _) ?_; intro Ap151 cp151 w151 op151 gp151; have N151 := Lib.hid (N150.out.grow gp151 rbn150.out); have rv151 := Lib.hid (rv150.out.kept gp151 (Or.inr (fun e => NE.out _ e.symm rfl))); have ri151 := Lib.hid (ri150.out.kept gp151 (own_types ri150.out rbn150.out intBan)); have rb151 := Lib.hid op151; clear op151 gp151; refine hK.out _ _ N151.out fun hHeld => ?_; clear hK K; (try simp only [Act.put, setIfInBounds_toArray, set_cons_zero, set_cons_succ])
         refine wpAnyH_ready (rs := [11, 18]) (by kernel_rfl) (by simp) ?_; refine AllReadyH.cons rfl (fun K hK => ?_) (AllReadyH.cons rfl (fun K hK => ?_) (AllReadyH.nil))
         focus
          refine step_app_ban rfl (.tmp 45) (.tmp 47) rfl (w.heap.size + 3) _ kp ((bs.take kp).flatMap Ban.cs) rfl rb151.out ⟨wc.heap.size, 0, none⟩ 1 1 b.cs rfl (Ban.len b) (fun j u hj => by rw [Addr.add_mid, Nat.zero_add]; exact own_at rv151.out hj) HBO.out (by omega) N151.out.lt 48 rfl (kp + 1) rfl (((bs.take kp).flatMap Ban.cs) ++ b.cs) rfl ?_; intro Ap152 cp152 w152 op152 gp152; have N152 := Lib.hid (N151.out.grow gp152 rb151.out); have ri152 := Lib.hid (ri151.out.kept gp152 (own_types ri151.out rb151.out intBan)); have rb152 := Lib.hid op152; clear op152 gp152; refine hK.out _ _ N152.out fun hHeld => ?_; clear hK K; (try simp only [Act.put, setIfInBounds_toArray, set_cons_zero, set_cons_succ])
          refine wpAnyH_ready (rs := [16, 18]) (by kernel_rfl) (by simp) ?_; refine AllReadyH.cons rfl (fun K hK => ?_) (AllReadyH.cons rfl (fun K hK => ?_) (AllReadyH.nil))
          focus
           refine step_app_ban rfl (.tmp 48) (.tmp 52) rfl (w.heap.size + 3) _ (kp + 1) (((bs.take kp).flatMap Ban.cs) ++ b.cs) rfl rb152.out A2 (m - kp) (d - kp) ((bs.drop kp).flatMap Ban.cs) rfl HL2.out (hsrc.out _ N152.out.ext) (bans_one _) (by omega) N152.out.lt 53 rfl (m + 1) hmk ((insB bs b).flatMap Ban.cs) HE.out ?_; intro A9 c9 w153 op153 gp153; have N153 := Lib.hid (N152.out.grow gp153 rb152.out); have ri153 := Lib.hid (ri152.out.kept gp153 (own_types ri152.out rb152.out intBan)); have rb153 := Lib.hid op153; clear op153 gp153; refine hK.out _ _ N153.out fun hHeld => ?_; clear hK K; (try simp only [Act.put, setIfInBounds_toArray, set_cons_zero, set_cons_succ])
           refine wpAnyH_take (i := 17) (v := ?_) rfl (by kernel_rfl) (by kernel_rfl) (by kernel_rfl) (fun _ _ _ h => h) (Or.inl ⟨by rfl, ?_⟩) hHeld ?_; rotate_left 1; (focus (intro w hSw; go_simp; (try with_reducible rfl))); (try simp only [Act.put, setIfInBounds_toArray, set_cons_zero, set_cons_succ])
           have ex154 := (Ext.refl (w153)).alloc (.cells #[.slice none 0 0, .slice none 0 0] 27)
           have N154 := Lib.hid (N153.out.step ex154)
           refine rdy 18 (by kernel_rfl) rfl fun K hK => ?_; go_simp; (try simp only [Act.put, setIfInBounds_toArray, set_cons_zero, set_cons_succ]); (try go_wp2_with fail); refine hK.out _ _ N154.out fun hHeld => ?_; clear hK K; (try simp only [Act.put, setIfInBounds_toArray, set_cons_zero, set_cons_succ])
           have bx154 := own_low' (own_block (w153) 27 [.slice none 0 0, .slice none 0 0]) (Nat.zero_le _)
           have lt154 := N153.out.lt
           (try simp only [World.size_alloc, World.size_drew] at bx154 lt154)
           have ri154 := Lib.hid (ex154.own ri153.out)
           have rb154 := Lib.hid (ex154.own rb153.out)
           have BXn154 := Lib.hid bx154
           clear bx154 ex154
           have BXF := Lib.hid BXn154.out
           have NF := Lib.hid N154.out
           have RBF := Lib.hid rb154.out
           have RIF := Lib.hid ri154.out
           have zx : w.heap.size + 2 < w153.heap.size := lt154
           obtain ⟨xb, hxb⟩ : ∃ xb, w153.heap.size = xb := ⟨_, rfl⟩
           rw [hxb] at BXF zx
           rw [hxb]
           clear hxb
           obtain ⟨wz, hwz⟩ : ∃ wz, (w153.alloc (.cells #[.slice none 0 0, .slice none 0 0] 27)) = wz := ⟨_, rfl⟩
           rw [hwz] at BXF NF RBF RIF
           rw [hwz]
           clear hwz
          rotate_left 1
          focus
           have ex155 := (Ext.refl (w152)).alloc (.cells #[.slice none 0 0, .slice none 0 0] 27)
           have N155 := Lib.hid (N152.out.step ex155)
           go_simp; (try simp only [Act.put, setIfInBounds_toArray, set_cons_zero, set_cons_succ]); (try go_wp2_with fail); refine hK.out _ _ N155.out fun hHeld => ?_; clear hK K; (try simp only [Act.put, setIfInBounds_toArray, set_cons_zero, set_cons_succ])
           have bx155 := own_low' (own_block (w152) 27 [.slice none 0 0, .slice none 0 0]) (Nat.zero_le _)
           have lt155 := N152.out.lt
           (try simp only [World.size_alloc, World.size_drew] at bx155 lt155)
           have ri155 := Lib.hid (ex155.own ri152.out)
           have rb155 := Lib.hid (ex155.own rb152.out)
           have BXn155 := Lib.hid bx155
           clear bx155 ex155
           refine rdy 16 (by kernel_rfl) rfl fun K hK => ?_; refine step_app_ban rfl (.tmp 48) (.tmp 52) rfl (w.heap.size + 3) _ (kp + 1) (((bs.take kp).flatMap Ban.cs) ++ b.cs) rfl rb155.out A2 (m - kp) (d - kp) ((bs.drop kp).flatMap Ban.cs) rfl HL2.out (hsrc.out _ N155.out.ext) (bans_one _) (by omega) N155.out.lt 53 rfl (m + 1) hmk ((insB bs b).flatMap Ban.cs) HE.out ?_; intro A9 c9 w156 op156 gp156; have N156 := Lib.hid (N155.out.grow gp156 rb155.out); have ri156 := Lib.hid (ri155.out.kept gp156 (own_types ri155.out rb155.out intBan)); have BX156 := Lib.hid (BXn155.out.kept gp156 (own_types BXn155.out rb155.out tabBan)); have rb156 := Lib.hid op156; clear op156 gp156; refine hK.out _ _ N156.out fun hHeld => ?_; clear hK K; (try simp only [Act.put, setIfInBounds_toArray, set_cons_zero, set_cons_succ])
           refine wpAnyH_take (i := 17) (v := ?_) rfl (by kernel_rfl) (by kernel_rfl) (by kernel_rfl) (fun _ _ _ h => h) (Or.inl ⟨by rfl, ?_⟩) hHeld ?_; rotate_left 1; (focus (intro w hSw; go_simp; (try with_reducible rfl))); (try simp only [Act.put, setIfInBounds_toArray, set_cons_zero, set_cons_succ])
           have BXF := Lib.hid BX156.out
           have NF := Lib.hid N156.out
           have RBF := Lib.hid rb156.out
           have RIF := Lib.hid ri156.out
           have zx : w.heap.size + 2 < w152.heap.size := lt155
           obtain ⟨xb, hxb⟩ : ∃ xb, w152.heap.size = xb := ⟨_, rfl⟩
           rw [hxb] at BXF zx
           rw [hxb]
           clear hxb
           obtain ⟨wz, hwz⟩ : ∃ wz, w156 = wz := ⟨_, rfl⟩
           rw [hwz] at BXF NF RBF RIF
           rw [hwz]
           clear hwz
          rotate_left 1
         rotate_left 2
         focus
          have ex157 := (Ext.refl (w151)).alloc (.cells #[.slice none 0 0, .slice none 0 0] 27)
          have N157 := Lib.hid (N151.out.step ex157)
          go_simp; (try simp only [Act.put, setIfInBounds_toArray, set_cons_zero, set_cons_succ]); (try go_wp2_with fail); refine hK.out _ _ N157.out fun hHeld => ?_; clear hK K; (try simp only [Act.put, setIfInBounds_toArray, set_cons_zero, set_cons_succ])
          have bx157 := own_low' (own_block (w151) 27 [.slice none 0 0, .slice none 0 0]) (Nat.zero_le _)
          have lt157 := N151.out.lt
          (try simp only [World.size_alloc, World.size_drew] at bx157 lt157)
          have rv157 := Lib.hid (ex157.own rv151.out)
          have ri157 := Lib.hid (ex157.own ri151.out)
          have rb157 := Lib.hid (ex157.own rb151.out)
          have BXn157 := Lib.hid bx157
          clear bx157 ex157
          refine rdy 11 (by kernel_rfl) rfl fun K hK => ?_; refine step_app_ban rfl (.tmp 45) (.tmp 47) rfl (w.heap.size + 3) _ kp ((bs.take kp).flatMap Ban.cs) rfl rb157.out ⟨wc.heap.size, 0, none⟩ 1 1 b.cs rfl (Ban.len b) (fun j u hj => by rw [Addr.add_mid, Nat.zero_add]; exact own_at rv157.out hj) HBO.out (by omega) N157.out.lt 48 rfl (kp + 1) rfl (((bs.take kp).flatMap Ban.cs) ++ b.cs) rfl ?_; intro Ap158 cp158 w158 op158 gp158; have N158 := Lib.hid (N157.out.grow gp158 rb157.out); have ri158 := Lib.hid (ri157.out.kept gp158 (own_types ri157.out rb157.out intBan)); have BX158 := Lib.hid (BXn157.out.kept gp158 (own_types BXn157.out rb157.out tabBan)); have rb158 := Lib.hid op158; clear op158 gp158; refine hK.out _ _ N158.out fun hHeld => ?_; clear hK K; (try simp only [Act.put, setIfInBounds_toArray, set_cons_zero, set_cons_succ])
          refine rdy 16 (by kernel_rfl) rfl fun K hK => ?_; refine step_app_ban rfl (.tmp 48) (.tmp 52) rfl (w.heap.size + 3) _ (kp + 1) (((bs.take kp).flatMap Ban.cs) ++ b.cs) rfl rb158.out A2 (m - kp) (d - kp) ((bs.drop kp).flatMap Ban.cs) rfl HL2.out (hsrc.out _ N158.out.ext) (bans_one _) (by omega) N158.out.lt 53 rfl (m + 1) hmk ((insB bs b).flatMap Ban.cs) HE.out ?_; intro A9 c9 w159 op159 gp159; have N159 := Lib.hid (N158.out.grow gp159 rb158.out); have ri159 := Lib.hid (ri158.out.kept gp159 (own_types ri158.out rb158.out intBan)); have BX159 := Lib.hid (BX158.out.kept gp159 (own_types BX158.out rb158.out tabBan)); have rb159 := Lib.hid op159; clear op159 gp159; refine hK.out _ _ N159.out fun hHeld => ?_; clear hK K; (try simp only [Act.put, setIfInBounds_toArray, set_cons_zero, set_cons_succ])
          refine wpAnyH_take (i := 17) (v := ?_) rfl (by kernel_rfl) (by kernel_rfl) (by kernel_rfl) (fun _ _ _ h => h) (Or.inl ⟨by rfl, ?_⟩) hHeld ?_; rotate_left 1; (focus (intro w hSw; go_simp; (try with_reducible rfl))); (try simp only [Act.put, setIfInBounds_toArray, set_cons_zero, set_cons_succ])
          have BXF := Lib.hid BX159.out
          have NF := Lib.hid N159.out
          have RBF := Lib.hid rb159.out
          have RIF := Lib.hid ri159.out
          have zx : w.heap.size + 2 < w151.heap.size := lt157
          obtain ⟨xb, hxb⟩ : ∃ xb, w151.heap.size = xb := ⟨_, rfl⟩
          rw [hxb] at BXF zx
          rw [hxb]
          clear hxb
          obtain ⟨wz, hwz⟩ : ∃ wz, w159 = wz := ⟨_, rfl⟩
          rw [hwz] at BXF NF RBF RIF
          rw [hwz]
          clear hwz
         rotate_left 1
        rotate_left 3
        focus
         have ex160 := (Ext.refl ((w149.alloc (.cells #[] 61)))).alloc (.cells #[.slice none 0 0, .slice none 0 0] 27)
         have N160 := Lib.hid (N150.out.step ex160)
         go_simp; (try simp only [Act.put, setIfInBounds_toArray, set_cons_zero, set_cons_succ]); (try go_wp2_with fail); refine hK.out _ _ N160.out fun hHeld => ?_; clear hK K; (try simp only [Act.put, setIfInBounds_toArray, set_cons_zero, set_cons_succ])
         have bx160 := own_low' (own_block ((w149.alloc (.cells #[] 61))) 27 [.slice none 0 0, .slice none 0 0]) (Nat.zero_le _)
         have lt160 := N150.out.lt
         (try simp only [World.size_alloc, World.size_drew] at bx160 lt160)
         have rv160 := Lib.hid (ex160.own rv150.out)
         have ri160 := Lib.hid (ex160.own ri150.out)
         have rb160 := Lib.hid (ex160.own rbn150.out)
         have BXn160 := Lib.hid bx160
         clear bx160 ex160
         refine rdy 8 (by kernel_rfl) rfl fun K hK => ?_; refine step_app_ban rfl (.tmp 40) (.tmp 44) rfl (w.heap.size + 3) _ 0 [] rfl rb160.out ⟨bb, off, none⟩ kp d ((bs.take kp).flatMap Ban.cs) rfl HL1.out (HS1.out _ N160.out.ext) (bans_one _) (by omega) N160.out.lt 45 rfl kp (Nat.zero_add kp) ((bs.take kp).flatMap Ban.cs) (List.nil_append _) ?_; intro Ap161 cp161 w161 op161 gp161; have N161 := Lib.hid (N160.out.grow gp161 rb160.out); have rv161 := Lib.hid (rv160.out.kept gp161 (Or.inr (fun e => NE.out _ e.symm rfl))); have ri161 := Lib.hid (ri160.out.kept gp161 (own_types ri160.out rb160.out intBan)); have BX161 := Lib.hid (BXn160.out.kept gp161 (own_types BXn160.out rb160.out tabBan)); have rb161 := Lib.hid op161; clear op161 gp161; refine hK.out _ _ N161.out fun hHeld => ?_; clear hK K; (try simp only [Act.put, setIfInBounds_toArray, set_cons_zero, set_cons_succ])
         refine rdy 11 (by kernel_rfl) rfl fun K hK => ?_; refine step_app_ban rfl (.tmp 45) (.tmp 47) rfl (w.heap.size + 3) _ kp ((bs.take kp).flatMap Ban.cs) rfl rb161.out ⟨wc.heap.size, 0, none⟩ 1 1 b.cs rfl (Ban.len b) (fun j u hj => by rw [Addr.add_mid, Nat.zero_add]; exact own_at rv161.out hj) HBO.out (by omega) N161.out.lt 48 rfl (kp + 1) rfl (((bs.take kp).flatMap Ban.cs) ++ b.cs) rfl ?_; intro Ap162 cp162 w162 op162 gp162; have N162 := Lib.hid (N161.out.grow gp162 rb161.out); have ri162 := Lib.hid (ri161.out.kept gp162 (own_types ri161.out rb161.out intBan)); have BX162 := Lib.hid (BX161.out.kept gp162 (own_types BX161.out rb161.out tabBan)); have rb162 := Lib.hid op162; clear op162 gp162; refine hK.out _ _ N162.out fun hHeld => ?_; clear hK K; (try simp only [Act.put, setIfInBounds_toArray, set_cons_zero, set_cons_succ])
         refine rdy 16 (by kernel_rfl) rfl fun K hK => ?_; refine step_app_ban rfl (.tmp 48) (.tmp 52) rfl (w.heap.size + 3) _ (kp + 1) (((bs.take kp).flatMap Ban.cs) ++ b.cs) rfl rb162.out A2 (m - kp) (d - kp) ((bs.drop kp).flatMap Ban.cs) rfl HL2.out (hsrc.out _ N162.out.ext) (bans_one _) (by omega) N162.out.lt 53 rfl (m + 1) hmk ((insB bs b).flatMap Ban.cs) HE.out ?_; intro A9 c9 w163 op163 gp163; have N163 := Lib.hid (N162.out.grow gp163 rb162.out); have ri163 := Lib.hid (ri162.out.kept gp163 (own_types ri162.out rb162.out intBan)); have BX163 := Lib.hid (BX162.out.kept gp163 (own_types BX162.out rb162.out tabBan)); have rb163 := Lib.hid op163; clear op163 gp163; refine hK.out _ _ N163.out fun hHeld => ?_; clear hK K; (try simp only [Act.put, setIfInBounds_toArray, set_cons_zero, set_cons_succ])
         refine wpAnyH_take (i := 17) (v := ?_) rfl (by kernel_rfl) (by kernel_rfl) (by kernel_rfl) (fun _ _ _ h => h) (Or.inl ⟨by rfl, ?_⟩) hHeld ?_; rotate_left 1; (focus (intro w hSw; go_simp; (try with_reducible rfl))); (try simp only [Act.put, setIfInBounds_toArray, set_cons_zero, set_cons_succ])
         have BXF := Lib.hid BX163.out
         have NF := Lib.hid N163.out
         have RBF := Lib.hid rb163.out
         have RIF := Lib.hid ri163.out
         have zx : w.heap.size + 2 < (w149.heap.size + 1) := lt160
         obtain ⟨xb, hxb⟩ : ∃ xb, (w149.heap.size + 1) = xb := ⟨_, rfl⟩
         rw [hxb] at BXF zx
         rw [hxb]
         clear hxb
         obtain ⟨wz, hwz⟩ : ∃ wz, w163 = wz := ⟨_, rfl⟩
         rw [hwz] at BXF NF RBF RIF
         rw [hwz]
         clear hwz
        rotate_left 1
       rotate_left 4
       focus
        have ex164 := (Ext.refl (w149)).alloc (.cells #[.slice none 0 0, .slice none 0 0] 27)
        have N164 := Lib.hid (N149.out.step ex164)
        go_simp; (try simp only [Act.put, setIfInBounds_toArray, set_cons_zero, set_cons_succ]); (try go_wp2_with fail); refine hK.out _ _ N164.out fun hHeld => ?_; clear hK K; (try simp only [Act.put, setIfInBounds_toArray, set_cons_zero, set_cons_succ])
        have bx164 := own_low' (own_block (w149) 27 [.slice none 0 0, .slice none 0 0]) (Nat.zero_le _)
        have lt164 := N149.out.lt
        (try simp only [World.size_alloc, World.size_drew] at bx164 lt164)
        have rv164 := Lib.hid (ex164.own rv149.out)
        have ri164 := Lib.hid (ex164.own rin149.out)
        have BXn164 := Lib.hid bx164
        clear bx164 ex164
        have ltv165 := (rv164.out.lt _ rfl).2
        (try simp only [World.size_alloc, World.size_drew] at ltv165)
        have ex165 := (Ext.refl ((w149.alloc (.cells #[.slice none 0 0, .slice none 0 0] 27)))).alloc (.cells #[] 61)
        have N165 := Lib.hid (N164.out.step ex165)
        refine rdy 3 (by kernel_rfl) rfl fun K hK => ?_; go_simp; (try simp only [Act.put, setIfInBounds_toArray, set_cons_zero, set_cons_succ]); (try go_wp2_with fail); refine hK.out _ _ N165.out fun hHeld => ?_; clear hK K; (try simp only [Act.put, setIfInBounds_toArray, set_cons_zero, set_cons_succ])
        have bx165 := own_empty ((w149.alloc (.cells #[.slice none 0 0, .slice none 0 0] 27))) (w.heap.size + 3) 61 4 (show w.heap.size + 3 ≤ _ from N164.out.lt)
        have lt165 := N164.out.lt
        (try simp only [World.size_alloc, World.size_drew] at bx165 lt165)
        have rv165 := Lib.hid (ex165.own rv164.out)
        have ri165 := Lib.hid (ex165.own ri164.out)
        have BX165 := Lib.hid (ex165.own BXn164.out)
        have rbn165 := Lib.hid bx165
        clear bx165 ex165
        have NE := Lib.hid (show ∀ k, Value.ownBlock (.slice (some ⟨(w149.heap.size + 1), 0, none⟩) 0 0) = some k → k ≠ wc.heap.size from fun k hk => by have h2 : some ((w149.heap.size + 1)) = some k := hk; injection h2 with h2; have h3 := ltv165; omega)
        refine rdy 8 (by kernel_rfl) rfl fun K hK => ?_; refine step_app_ban rfl (.tmp 40) (.tmp 44) rfl (w.heap.size + 3) _ 0 [] rfl rbn165.out ⟨bb, off, none⟩ kp d ((bs.take kp).flatMap Ban.cs) rfl HL1.out (HS1.out _ N165.out.ext) (bans_one _) (by omega) N165.out.lt 45 rfl kp (Nat.zero_add kp) ((bs.take kp).flatMap Ban.cs) (List.nil_append _) ?_; intro Ap166 cp166 w166 op166 gp166; have N166 := Lib.hid (N165.out.grow gp166 rbn165.out); have rv166 := Lib.hid (rv165.out.kept gp166 (Or.inr (fun e => NE.out _ e.symm rfl))); have ri166 := Lib.hid (ri165.out.kept gp166 (own_types ri165.out rbn165.out intBan)); have BX166 := Lib.hid (BX165.out.kept gp166 (own_types BX165.out rbn165.out tabBan)); have rb166 := Lib.hid op166; clear op166 gp166; refine hK.out _ _ N166.out fun hHeld => ?_; clear hK K; (try simp only [Act.put, setIfInBounds_toArray, set_cons_zero, set_cons_succ])
        refine rdy 11 (by kernel_rfl) rfl fun K hK => ?_; refine step_app_ban rfl (.tmp 45) (.tmp 47) rfl (w.heap.size + 3) _ kp ((bs.take kp).flatMap Ban.cs) rfl rb166.out ⟨wc.heap.size, 0, none⟩ 1 1 b.cs rfl (Ban.len b) (fun j u hj => by rw [Addr.add_mid, Nat.zero_add]; exact own_at rv166.out hj) HBO.out (by omega) N166.out.lt 48 rfl (kp + 1) rfl (((bs.take kp).flatMap Ban.cs) ++ b.cs) rfl ?_; intro Ap167 cp167 w167 op167 gp167; have N167 := Lib.hid (N166.out.grow gp167 rb166.out); have ri167 := Lib.hid (ri166.out.kept gp167 (own_types ri166.out rb166.out intBan)); have BX167 := Lib.hid (BX166.out.kept gp167 (own_types BX166.out rb166.out tabBan)); have rb167 := Lib.hid op167; clear op167 gp167; refine hK.out _ _ N167.out fun hHeld => ?_; clear hK K; (try simp only [Act.put, setIfInBounds_toArray, set_cons_zero, set_cons_succ])
        refine rdy 16 (by kernel_rfl) rfl fun K hK => ?_; refine step_app_ban rfl (.tmp 48) (.tmp 52) rfl (w.heap.size + 3) _ (kp + 1) (((bs.take kp).flatMap Ban.cs) ++ b.cs) rfl rb167.out A2 (m - kp) (d - kp) ((bs.drop kp).flatMap Ban.cs) rfl HL2.out (hsrc.out _ N167.out.ext) (bans_one _) (by omega) N167.out.lt 53 rfl (m + 1) hmk ((insB bs b).flatMap Ban.cs) HE.out ?_; intro A9 c9 w168 op168 gp168; have N168 := Lib.hid (N167.out.grow gp168 rb167.out); have ri168 := Lib.hid (ri167.out.kept gp168 (own_types ri167.out rb167.out intBan)); have BX168 := Lib.hid (BX167.out.kept gp168 (own_types BX167.out rb167.out tabBan)); have rb168 := Lib.hid op168; clear op168 gp168; refine hK.out _ _ N168.out fun hHeld => ?_; clear hK K; (try simp only [Act.put, setIfInBounds_toArray, set_cons_zero, set_cons_succ])
        refine wpAnyH_take (i := 17) (v := ?_) rfl (by kernel_rfl) (by kernel_rfl) (by kernel_rfl) (fun _ _ _ h => h) (Or.inl ⟨by rfl, ?_⟩) hHeld ?_; rotate_left 1; (focus (intro w hSw; go_simp; (try with_reducible rfl))); (try simp only [Act.put, setIfInBounds_toArray, set_cons_zero, set_cons_succ])
        have BXF := Lib.hid BX168.out
        have NF := Lib.hid N168.out
        have RBF := Lib.hid rb168.out
        have RIF := Lib.hid ri168.out
        have zx : w.heap.size + 2 < w149.heap.size := lt164
        obtain ⟨xb, hxb⟩ : ∃ xb, w149.heap.size = xb := ⟨_, rfl⟩
        rw [hxb] at BXF zx
        rw [hxb]
        clear hxb
        obtain ⟨wz, hwz⟩ : ∃ wz, w168 = wz := ⟨_, rfl⟩
        rw [hwz] at BXF NF RBF RIF
        rw [hwz]
        clear hwz
       rotate_left 1
      rotate_left 5
      focus
       have ltv169 := (rvn148.out.lt _ rfl).2
       (try simp only [World.size_alloc, World.size_drew] at ltv169)
       have ex169 := (Ext.refl ((wc.drew.alloc (.cells #[.int .i64 b.A, .int .i64 b.X, .int .i64 b.B, .int .i64 b.Y] 61)))).alloc (.cells #[] 61)
       have N169 := Lib.hid (N148.out.step ex169)
       go_simp; (try simp only [Act.put, setIfInBounds_toArray, set_cons_zero, set_cons_succ]); (try go_wp2_with fail); refine hK.out _ _ N169.out fun hHeld => ?_; clear hK K; (try simp only [Act.put, setIfInBounds_toArray, set_cons_zero, set_cons_succ])
       have bx169 := own_empty ((wc.drew.alloc (.cells #[.int .i64 b.A, .int .i64 b.X, .int .i64 b.B, .int .i64 b.Y] 61))) (w.heap.size + 3) 61 4 (show w.heap.size + 3 ≤ _ from N148.out.lt)
       have lt169 := N148.out.lt
       (try simp only [World.size_alloc, World.size_drew] at bx169 lt169)
       have rv169 := Lib.hid (ex169.own rvn148.out)
       have rbn169 := Lib.hid bx169
       clear bx169 ex169
       have NE := Lib.hid (show ∀ k, Value.ownBlock (.slice (some ⟨(wc.heap.size + 1), 0, none⟩) 0 0) = some k → k ≠ wc.heap.size from fun k hk => by have h2 : some ((wc.heap.size + 1)) = some k := hk; injection h2 with h2; have h3 := ltv169; omega)
       refine wpAnyH_ready (rs := [2, 18]) (by kernel_rfl) (by simp) ?_; refine AllReadyH.cons rfl (fun K hK => ?_) (AllReadyH.cons rfl (fun K hK => ?_) (AllReadyH.nil))
       focus
        go_simp; (try simp only [Act.put, setIfInBounds_toArray, set_cons_zero, set_cons_succ]); (try go_wp2_with (go_at_call 66; refine (l1Own_any aa n c ss _ hn (h.sr.ext N169.out.ext)).mono ?_; rintro e w170 ⟨A1, c1, rfl, oc170, he1⟩)); refine hK.out _ _ (N169.out.step he1) fun hHeld => ?_; clear hK K; (try simp only [Act.put, setIfInBounds_toArray, set_cons_zero, set_cons_succ])
        have rv170 := Lib.hid (he1.own rv169.out)
        have rb170 := Lib.hid (he1.own rbn169.out)
        have N170 := Lib.hid (N169.out.step he1)
        have rin170 := Lib.hid (own_low' oc170 (show w.heap.size + 3 ≤ _ from N169.out.lt))
        clear oc170 he1
        refine wpAnyH_ready (rs := [8, 18]) (by kernel_rfl) (by simp) ?_; refine AllReadyH.cons rfl (fun K hK => ?_) (AllReadyH.cons rfl (fun K hK => ?_) (AllReadyH.nil))
        focus
         refine step_app_ban rfl (.tmp 40) (.tmp 44) rfl (w.heap.size + 3) _ 0 [] rfl rb170.out ⟨bb, off, none⟩ kp d ((bs.take kp).flatMap Ban.cs) rfl HL1.out (HS1.out _ N170.out.ext) (bans_one _) (by omega) N170.out.lt 45 rfl kp (Nat.zero_add kp) ((bs.take kp).flatMap Ban.cs) (List.nil_append _) ?_; intro Ap171 cp171 w171 op171 gp171; have N171 := Lib.hid (N170.out.grow gp171 rb170.out); have rv171 := Lib.hid (rv170.out.kept gp171 (Or.inr (fun e => NE.out _ e.symm rfl))); have ri171 := Lib.hid (rin170.out.kept gp171 (own_types rin170.out rb170.out intBan)); have rb171 := Lib.hid op171; clear op171 gp171; refine hK.out _ _ N171.out fun hHeld => ?_; clear hK K; (try simp only [Act.put, setIfInBounds_toArray, set_cons_zero, set_cons_succ])
         refine wpAnyH_ready (rs := [11, 18]) (by kernel_rfl) (by simp) ?_; refine AllReadyH.cons rfl (fun K hK => ?_) (AllReadyH.cons rfl (fun K hK => ?_) (AllReadyH.nil))
         focus
          refine step_app_ban rfl (.tmp 45) (.tmp 47) rfl (w.heap.size + 3) _ kp ((bs.take kp).flatMap Ban.cs) rfl rb171.out ⟨wc.heap.size, 0, none⟩ 1 1 b.cs rfl (Ban.len b) (fun j u hj => by rw [Addr.add_mid, Nat.zero_add]; exact own_at rv171.out hj) HBO.out (by omega) N171.out.lt 48 rfl (kp + 1) rfl (((bs.take kp).flatMap Ban.cs) ++ b.cs) rfl ?_; intro Ap172 cp172 w172 op172 gp172; have N172 := Lib.hid (N171.out.grow gp172 rb171.out); have ri172 := Lib.hid (ri171.out.kept gp172 (own_types ri171.out rb171.out intBan)); have rb172 := Lib.hid op172; clear op172 gp172; refine hK.out _ _ N172.out fun hHeld => ?_; clear hK K; (try simp only [Act.put, setIfInBounds_toArray, set_cons_zero, set_cons_succ])
          refine wpAnyH_ready (rs := [16, 18]) (by kernel_rfl) (by simp) ?_; refine AllReadyH.cons rfl (fun K hK => ?_) (AllReadyH.cons rfl (fun K hK => ?_) (AllReadyH.nil))
          focus
           refine step_app_ban rfl (.tmp 48) (.tmp 52) rfl (w.heap.size + 3) _ (kp + 1) (((bs.take kp).flatMap Ban.cs) ++ b.cs) rfl rb172.out A2 (m - kp) (d - kp) ((bs.drop kp).flatMap Ban.cs) rfl HL2.out (hsrc.out _ N172.out.ext) (bans_one _) (by omega) N172.out.lt 53 rfl (m + 1) hmk ((insB bs b).flatMap Ban.cs) HE.out ?_; intro A9 c9 w173 op173 gp173; have N173 := Lib.hid (N172.out.grow gp173 rb172.out); have ri173 := Lib.hid (ri172.out.kept gp173 (own_types ri172.out rb172.out intBan)); have rb173 := Lib.hid op173; clear op173 gp173; refine hK.out _ _ N173.out fun hHeld => ?_; clear hK K; (try simp only [Act.put, setIfInBounds_toArray, set_cons_zero, set_cons_succ])
           refine wpAnyH_take (i := 17) (v := ?_) rfl (by kernel_rfl) (by kernel_rfl) (by kernel_rfl) (fun _ _ _ h => h) (Or.inl ⟨by rfl, ?_⟩) hHeld ?_; rotate_left 1; (focus (intro w hSw; go_simp; (try with_reducible rfl))); (try simp only [Act.put, setIfInBounds_toArray, set_cons_zero, set_cons_succ])
           have ex174 := (Ext.refl (w173)).alloc (.cells #[.slice none 0 0, .slice none 0 0] 27)
           have N174 := Lib.hid (N173.out.step ex174)
           refine rdy 18 (by kernel_rfl) rfl fun K hK => ?_; go_simp; (try simp only [Act.put, setIfInBounds_toArray, set_cons_zero, set_cons_succ]); (try go_wp2_with fail); refine hK.out _ _ N174.out fun hHeld => ?_; clear hK K; (try simp only [Act.put, setIfInBounds_toArray, set_cons_zero, set_cons_succ])
           have bx174 := own_low' (own_block (w173) 27 [.slice none 0 0, .slice none 0 0]) (Nat.zero_le _)
           have lt174 := N173.out.lt
           (try simp only [World.size_alloc, World.size_drew] at bx174 lt174)
           have rb174 := Lib.hid (ex174.own rb173.out)
           have ri174 := Lib.hid (ex174.own ri173.out)
           have BXn174 := Lib.hid bx174
           clear bx174 ex174
           have BXF := Lib.hid BXn174.out
           have NF := Lib.hid N174.out
           have RBF := Lib.hid rb174.out
           have RIF := Lib.hid ri174.out
           have zx : w.heap.size + 2 < w173.heap.size := lt174
           obtain ⟨xb, hxb⟩ : ∃ xb, w173.heap.size = xb := ⟨_, rfl⟩
           rw [hxb] at BXF zx
           rw [hxb]
           clear hxb
           obtain ⟨wz, hwz⟩ : ∃ wz, (w173.alloc (.cells #[.slice none 0 0, .slice none 0 0] 27)) = wz := ⟨_, rfl⟩
           rw [hwz] at BXF NF RBF RIF
           rw [hwz]
           clear hwz
          rotate_left 1
          focus
           have ex175 := (Ext.refl (w172)).alloc (.cells #[.slice none 0 0, .slice none 0 0] 27)
           have N175 := Lib.hid (N172.out.step ex175)
           go_simp; (try simp only [Act.put, setIfInBounds_toArray, set_cons_zero, set_cons_succ]); (try go_wp2_with fail); refine hK.out _ _ N175.out fun hHeld => ?_; clear hK K; (try simp only [Act.put, setIfInBounds_toArray, set_cons_zero, set_cons_succ])
           have bx175 := own_low' (own_block (w172) 27 [.slice none 0 0, .slice none 0 0]) (Nat.zero_le _)
           have lt175 := N172.out.lt
           (try simp only [World.size_alloc, World.size_drew] at bx175 lt175)
           have rb175 := Lib.hid (ex175.own rb172.out)
           have ri175 := Lib.hid (ex175.own ri172.out)
           have BXn175 := Lib.hid bx175
           clear bx175 ex175
           refine rdy 16 (by kernel_rfl) rfl fun K hK => ?_; refine step_app_ban rfl (.tmp 48) (.tmp 52) rfl (w.heap.size + 3) _ (kp + 1) (((bs.take kp).flatMap Ban.cs) ++ b.cs) rfl rb175.out A2 (m - kp) (d - kp) ((bs.drop kp).flatMap Ban.cs) rfl HL2.out (hsrc.out _ N175.out.ext) (bans_one _) (by omega) N175.out.lt 53 rfl (m + 1) hmk ((insB bs b).flatMap Ban.cs) HE.out ?_; intro A9 c9 w176 op176 gp176; have N176 := Lib.hid (N175.out.grow gp176 rb175.out); have ri176 := Lib.hid (ri175.out.kept gp176 (own_types ri175.out rb175.out intBan)); have BX176 := Lib.hid (BXn175.out.kept gp176 (own_types BXn175.out rb175.out tabBan)); have rb176 := Lib.hid op176; clear op176 gp176; refine hK.out _ _ N176.out fun hHeld => ?_; clear hK K; (try simp only [Act.put, setIfInBounds_toArray, set_cons_zero, set_cons_succ])
           refine wpAnyH_take (i := 17) (v := ?_) rfl (by kernel_rfl) (by kernel_rfl) (by kernel_rfl) (fun _ _ _ h => h) (Or.inl ⟨by rfl, ?_⟩) hHeld ?_; rotate_left 1; (focus (intro w hSw; go_simp; (try with_reducible rfl))); (try simp only [Act.put, setIfInBounds_toArray, set_cons_zero, set_cons_succ])
           have BXF := Lib.hid BX176.out
           have NF := Lib.hid N176.out
           have RBF := Lib.hid rb176.out
           have RIF := Lib.hid ri176.out
           have zx : w.heap.size + 2 < w172.heap.size := lt175
           obtain ⟨xb, hxb⟩ : ∃ xb, w172.heap.size = xb := ⟨_, rfl⟩
           rw [hxb] at BXF zx
           rw [hxb]
           clear hxb
           obtain ⟨wz, hwz⟩ : ∃ wz, w176 = wz := ⟨_, rfl⟩
           rw [hwz] at BXF NF RBF RIF
           rw [hwz]
           clear hwz
          rotate_left 1
         rotate_left 2
         focus
          have ex177 := (Ext.refl (w171)).alloc (.cells #[.slice none 0 0, .slice none 0 0] 27)
          have N177 := Lib.hid (N171.out.step ex177)
          go_simp; (try simp only [Act.put, setIfInBounds_toArray, set_cons_zero, set_cons_succ]); (try go_wp2_with fail); refine hK.out _ _ N177.out fun hHeld => ?_; clear hK K; (try simp only [Act.put, setIfInBounds_toArray, set_cons_zero, set_cons_succ])
          have bx177 := own_low' (own_block (w171) 27 [.slice none 0 0, .slice none 0 0]) (Nat.zero_le _)
          have lt177 := N171.out.lt
          (try simp only [World.size_alloc, World.size_drew] at bx177 lt177)
          have rv177 := Lib.hid (ex177.own rv171.out)
          have rb177 := Lib.hid (ex177.own rb171.out)
          have ri177 := Lib.hid (ex177.own ri171.out)
          have BXn177 := Lib.hid bx177
          clear bx177 ex177
          refine rdy 11 (by kernel_rfl) rfl fun K hK => ?_; refine step_app_ban rfl (.tmp 45) (.tmp 47) rfl (w.heap.size + 3) _ kp ((bs.take kp).flatMap Ban.cs) rfl rb177.out ⟨wc.heap.size, 0, none⟩ 1 1 b.cs rfl (Ban.len b) (fun j u hj => by rw [Addr.add_mid, Nat.zero_add]; exact own_at rv177.out hj) HBO.out (by omega) N177.out.lt 48 rfl (kp + 1) rfl (((bs.take kp).flatMap Ban.cs) ++ b.cs) rfl ?_; intro Ap178 cp178 w178 op178 gp178; have N178 := Lib.hid (N177.out.grow gp178 rb177.out); have ri178 := Lib.hid (ri177.out.kept gp178 (own_types ri177.out rb177.out intBan)); have BX178 := Lib.hid (BXn177.out.kept gp178 (own_types BXn177.out rb177.out tabBan)); have rb178 := Lib.hid op178; clear op178 gp178; refine hK.out _ _ N178.out fun hHeld => ?_; clear hK K; (try simp only [Act.put, setIfInBounds_toArray, set_cons_zero, set_cons_succ])
          refine rdy 16 (by kernel_rfl) rfl fun K hK => ?_; refine step_app_ban rfl (.tmp 48) (.tmp 52) rfl (w.heap.size + 3) _ (kp + 1) (((bs.take kp).flatMap Ban.cs) ++ b.cs) rfl rb178.out A2 (m - kp) (d - kp) ((bs.drop kp).flatMap Ban.cs) rfl HL2.out (hsrc.out _ N178.out.ext) (bans_one _) (by omega) N178.out.lt 53 rfl (m + 1) hmk ((insB bs b).flatMap Ban.cs) HE.out ?_; intro A9 c9 w179 op179 gp179; have N179 := Lib.hid (N178.out.grow gp179 rb178.out); have ri179 := Lib.hid (ri178.out.kept gp179 (own_types ri178.out rb178.out intBan)); have BX179 := Lib.hid (BX178.out.kept gp179 (own_types BX178.out rb178.out tabBan)); have rb179 := Lib.hid op179; clear op179 gp179; refine hK.out _ _ N179.out fun hHeld => ?_; clear hK K; (try simp only [Act.put, setIfInBounds_toArray, set_cons_zero, set_cons_succ])
          refine wpAnyH_take (i := 17) (v := ?_) rfl (by kernel_rfl) (by kernel_rfl) (by kernel_rfl) (fun _ _ _ h => h) (Or.inl ⟨by rfl, ?_⟩) hHeld ?_; rotate_left 1; (focus (intro w hSw; go_simp; (try with_reducible rfl))); (try simp only [Act.put, setIfInBounds_toArray, set_cons_zero, set_cons_succ])
          have BXF := Lib.hid BX179.out
          have NF := Lib.hid N179.out
          have RBF := Lib.hid rb179.out
          have RIF := Lib.hid ri179.out
          have zx : w.heap.size + 2 < w171.heap.size := lt177
          obtain ⟨xb, hxb⟩ : ∃ xb, w171.heap.size = xb := ⟨_, rfl⟩
          rw [hxb] at BXF zx
          rw [hxb]
          clear hxb
          obtain ⟨wz, hwz⟩ : ∃ wz, w179 = wz := ⟨_, rfl⟩
          rw [hwz] at BXF NF RBF RIF
          rw [hwz]
          clear hwz
         rotate_left 1
        rotate_left 3
        focus
         have ex180 := (Ext.refl (w170)).alloc (.cells #[.slice none 0 0, .slice none 0 0] 27)
         have N180 := Lib.hid (N170.out.step ex180)
         go_simp; (try simp only [Act.put, setIfInBounds_toArray, set_cons_zero, set_cons_succ]); (try go_wp2_with fail); refine hK.out _ _ N180.out fun hHeld => ?_; clear hK K; (try simp only [Act.put, setIfInBounds_toArray, set_cons_zero, set_cons_succ])
         have bx180 := own_low' (own_block (w170) 27 [.slice none 0 0, .slice none 0 0]) (Nat.zero_le _)
         have lt180 := N170.out.lt
         (try simp only [World.size_alloc, World.size_drew] at bx180 lt180)
         have rv180 := Lib.hid (ex180.own rv170.out)
         have rb180 := Lib.hid (ex180.own rb170.out)
         have ri180 := Lib.hid (ex180.own rin170.out)
         have BXn180 := Lib.hid bx180
         clear bx180 ex180
         refine rdy 8 (by kernel_rfl) rfl fun K hK => ?_; refine step_app_ban rfl (.tmp 40) (.tmp 44) rfl (w.heap.size + 3) _ 0 [] rfl rb180.out ⟨bb, off, none⟩ kp d ((bs.take kp).flatMap Ban.cs) rfl HL1.out (HS1.out _ N180.out.ext) (bans_one _) (by omega) N180.out.lt 45 rfl kp (Nat.zero_add kp) ((bs.take kp).flatMap Ban.cs) (List.nil_append _) ?_; intro Ap181 cp181 w181 op181 gp181; have N181 := Lib.hid (N180.out.grow gp181 rb180.out); have rv181 := Lib.hid (rv180.out.kept gp181 (Or.inr (fun e => NE.out _ e.symm rfl))); have ri181 := Lib.hid (ri180.out.kept gp181 (own_types ri180.out rb180.out intBan)); have BX181 := Lib.hid (BXn180.out.kept gp181 (own_types BXn180.out rb180.out tabBan)); have rb181 := Lib.hid op181; clear op181 gp181; refine hK.out _ _ N181.out fun hHeld => ?_; clear hK K; (try simp only [Act.put, setIfInBounds_toArray, set_cons_zero, set_cons_succ])
         refine rdy 11 (by kernel_rfl) rfl fun K hK => ?_; refine step_app_ban rfl (.tmp 45) (.tmp 47) rfl (w.heap.size + 3) _ kp ((bs.take kp).flatMap Ban.cs) rfl rb181.out ⟨wc.heap.size, 0, none⟩ 1 1 b.cs rfl (Ban.len b) (fun j u hj => by rw [Addr.add_mid, Nat.zero_add]; exact own_at rv181.out hj) HBO.out (by omega) N181.out.lt 48 rfl (kp + 1) rfl (((bs.take kp).flatMap Ban.cs) ++ b.cs) rfl ?_; intro Ap182 cp182 w182 op182 gp182; have N182 := Lib.hid (N181.out.grow gp182 rb181.out); have ri182 := Lib.hid (ri181.out.kept gp182 (own_types ri181.out rb181.out intBan)); have BX182 := Lib.hid (BX181.out.kept gp182 (own_types BX181.out rb181.out tabBan)); have rb182 := Lib.hid op182; clear op182 gp182; refine hK.out _ _ N182.out fun hHeld => ?_; clear hK K; (try simp only [Act.put, setIfInBounds_toArray, set_cons_zero, set_cons_succ])
         refine rdy 16 (by kernel_rfl) rfl fun K hK => ?_; refine step_app_ban rfl (.tmp 48) (.tmp 52) rfl (w.heap.size + 3) _ (kp + 1) (((bs.take kp).flatMap Ban.cs) ++ b.cs) rfl rb182.out A2 (m - kp) (d - kp) ((bs.drop kp).flatMap Ban.cs) rfl HL2.out (hsrc.out _ N182.out.ext) (bans_one _) (by omega) N182.out.lt 53 rfl (m + 1) hmk ((insB bs b).flatMap Ban.cs) HE.out ?_; intro A9 c9 w183 op183 gp183; have N183 := Lib.hid (N182.out.grow gp183 rb182.out); have ri183 := Lib.hid (ri182.out.kept gp183 (own_types ri182.out rb182.out intBan)); have BX183 := Lib.hid (BX182.out.kept gp183 (own_types BX182.out rb182.out tabBan)); have rb183 := Lib.hid op183; clear op183 gp183; refine hK.out _ _ N183.out fun hHeld => ?_; clear hK K; (try simp only [Act.put, setIfInBounds_toArray, set_cons_zero, set_cons_succ])
         refine wpAnyH_take (i := 17) (v := ?_) rfl (by kernel_rfl) (by kernel_rfl) (by kernel_rfl) (fun _ _ _ h => h) (Or.inl ⟨by rfl, ?_⟩) hHeld ?_; rotate_left 1; (focus (intro w hSw; go_simp; (try with_reducible rfl))); (try simp only [Act.put, setIfInBounds_toArray, set_cons_zero, set_cons_succ])
         have BXF := Lib.hid BX183.out
         have NF := Lib.hid N183.out
         have RBF := Lib.hid rb183.out
         have RIF := Lib.hid ri183.out
         have zx : w.heap.size + 2 < w170.heap.size := lt180
         obtain ⟨xb, hxb⟩ : ∃ xb, w170.heap.size = xb := ⟨_, rfl⟩
         rw [hxb] at BXF zx
         rw [hxb]
         clear hxb
         obtain ⟨wz, hwz⟩ : ∃ wz, w183 = wz := ⟨_, rfl⟩
         rw [hwz] at BXF NF RBF RIF
         rw [hwz]
         clear hwz
        rotate_left 1
       rotate_left 4
       focus
        have ex184 := (Ext.refl (((wc.drew.alloc (.cells #[.int .i64 b.A, .int .i64 b.X, .int .i64 b.B, .int .i64 b.Y] 61)).alloc (.cells #[] 61)))).alloc (.cells #[.slice none 0 0, .slice none 0 0] 27)
        have N184 := Lib.hid (N169.out.step ex184)
        go_simp; (try simp only [Act.put, setIfInBounds_toArray, set_cons_zero, set_cons_succ]); (try go_wp2_with fail); refine hK.out _ _ N184.out fun hHeld => ?_; clear hK K; (try simp only [Act.put, setIfInBounds_toArray, set_cons_zero, set_cons_succ])
        have bx184 := own_low' (own_block (((wc.drew.alloc (.cells #[.int .i64 b.A, .int .i64 b.X, .int .i64 b.B, .int .i64 b.Y] 61)).alloc (.cells #[] 61))) 27 [.slice none 0 0, .slice none 0 0]) (Nat.zero_le _)
        have lt184 := N169.out.lt
        (try simp only [World.size_alloc, World.size_drew] at bx184 lt184)
        have rv184 := Lib.hid (ex184.own rv169.out)
        have rb184 := Lib.hid (ex184.own rbn169.out)
        have BXn184 := Lib.hid bx184
        clear bx184 ex184
        refine rdy 2 (by kernel_rfl) rfl fun K hK => ?_; go_simp; (try simp only [Act.put, setIfInBounds_toArray, set_cons_zero, set_cons_succ]); (try go_wp2_with (go_at_call 66; refine (l1Own_any aa n c ss _ hn (h.sr.ext N184.out.ext)).mono ?_; rintro e w185 ⟨A1, c1, rfl, oc185, he1⟩)); refine hK.out _ _ (N184.out.step he1) fun hHeld => ?_; clear hK K; (try simp only [Act.put, setIfInBounds_toArray, set_cons_zero, set_cons_succ])
        have rv185 := Lib.hid (he1.own rv184.out)
        have rb185 := Lib.hid (he1.own rb184.out)
        have BX185 := Lib.hid (he1.own BXn184.out)
        have N185 := Lib.hid (N184.out.step he1)
        have rin185 := Lib.hid (own_low' oc185 (show w.heap.size + 3 ≤ _ from N184.out.lt))
        clear oc185 he1
        refine rdy 8 (by kernel_rfl) rfl fun K hK => ?_; refine step_app_ban rfl (.tmp 40) (.tmp 44) rfl (w.heap.size + 3) _ 0 [] rfl rb185.out ⟨bb, off, none⟩ kp d ((bs.take kp).flatMap Ban.cs) rfl HL1.out (HS1.out _ N185.out.ext) (bans_one _) (by omega) N185.out.lt 45 rfl kp (Nat.zero_add kp) ((bs.take kp).flatMap Ban.cs) (List.nil_append _) ?_; intro Ap186 cp186 w186 op186 gp186; have N186 := Lib.hid (N185.out.grow gp186 rb185.out); have rv186 := Lib.hid (rv185.out.kept gp186 (Or.inr (fun e => NE.out _ e.symm rfl))); have BX186 := Lib.hid (BX185.out.kept gp186 (own_types BX185.out rb185.out tabBan)); have ri186 := Lib.hid (rin185.out.kept gp186 (own_types rin185.out rb185.out intBan)); have rb186 := Lib.hid op186; clear op186 gp186; refine hK.out _ _ N186.out fun hHeld => ?_; clear hK K; (try simp only [Act.put, setIfInBounds_toArray, set_cons_zero, set_cons_succ])
        refine rdy 11 (by kernel_rfl) rfl fun K hK => ?_; refine step_app_ban rfl (.tmp 45) (.tmp 47) rfl (w.heap.size + 3) _ kp ((bs.take kp).flatMap Ban.cs) rfl rb186.out ⟨wc.heap.size, 0, none⟩ 1 1 b.cs rfl (Ban.len b) (fun j u hj => by rw [Addr.add_mid, Nat.zero_add]; exact own_at rv186.out hj) HBO.out (by omega) N186.out.lt 48 rfl (kp + 1) rfl (((bs.take kp).flatMap Ban.cs) ++ b.cs) rfl ?_; intro Ap187 cp187 w187 op187 gp187; have N187 := Lib.hid (N186.out.grow gp187 rb186.out); have BX187 := Lib.hid (BX186.out.kept gp187 (own_types BX186.out rb186.out tabBan)); have ri187 := Lib.hid (ri186.out.kept gp187 (own_types ri186.out rb186.out intBan)); have rb187 := Lib.hid op187; clear op187 gp187; refine hK.out _ _ N187.out fun hHeld => ?_; clear hK K; (try simp only [Act.put, setIfInBounds_toArray, set_cons_zero, set_cons_succ])
        refine rdy 16 (by kernel_rfl) rfl fun K hK => ?_; refine step_app_ban rfl (.tmp 48) (.tmp 52) rfl (w.heap.size + 3) _ (kp + 1) (((bs.take kp).flatMap Ban.cs) ++ b.cs) rfl rb187.out A2 (m - kp) (d - kp) ((bs.drop kp).flatMap Ban.cs) rfl HL2.out (hsrc.out _ N187.out.ext) (bans_one _) (by omega) N187.out.lt 53 rfl (m + 1) hmk ((insB bs b).flatMap Ban.cs) HE.out ?_; intro A9 c9 w188 op188 gp188; have N188 := Lib.hid (N187.out.grow gp188 rb187.out); have BX188 := Lib.hid (BX187.out.kept gp188 (own_types BX187.out rb187.out tabBan)); have ri188 := Lib.hid (ri187.out.kept gp188 (own_types ri187.out rb187.out intBan)); have rb188 := Lib.hid op188; clear op188 gp188; refine hK.out _ _ N188.out fun hHeld => ?_; clear hK K; (try simp only [Act.put, setIfInBounds_toArray, set_cons_zero, set_cons_succ])
        refine wpAnyH_take (i := 17) (v := ?_) rfl (by kernel_rfl) (by kernel_rfl) (by kernel_rfl) (fun _ _ _ h => h) (Or.inl ⟨by rfl, ?_⟩) hHeld ?_; rotate_left 1; (focus (intro w hSw; go_simp; (try with_reducible rfl))); (try simp only [Act.put, setIfInBounds_toArray, set_cons_zero, set_cons_succ])
        have BXF := Lib.hid BX188.out
        have NF := Lib.hid N188.out
        have RBF := Lib.hid rb188.out
        have RIF := Lib.hid ri188.out
        have zx : w.heap.size + 2 < ((wc.heap.size + 1) + 1) := lt184
        obtain ⟨xb, hxb⟩ : ∃ xb, ((wc.heap.size + 1) + 1) = xb := ⟨_, rfl⟩
        rw [hxb] at BXF zx
        rw [hxb]
        clear hxb
        obtain ⟨wz, hwz⟩ : ∃ wz, w188 = wz := ⟨_, rfl⟩
        rw [hwz] at BXF NF RBF RIF
        rw [hwz]
        clear hwz
       rotate_left 1
      rotate_left 5
      focus
       have ex189 := (Ext.refl ((wc.drew.alloc (.cells #[.int .i64 b.A, .int .i64 b.X, .int .i64 b.B, .int .i64 b.Y] 61)))).alloc (.cells #[.slice none 0 0, .slice none 0 0] 27)
       have N189 := Lib.hid (N148.out.step ex189)
       go_simp; (try simp only [Act.put, setIfInBounds_toArray, set_cons_zero, set_cons_succ]); (try go_wp2_with fail); refine hK.out _ _ N189.out fun hHeld => ?_; clear hK K; (try simp only [Act.put, setIfInBounds_toArray, set_cons_zero, set_cons_succ])
       have bx189 := own_low' (own_block ((wc.drew.alloc (.cells #[.int .i64 b.A, .int .i64 b.X, .int .i64 b.B, .int .i64 b.Y] 61))) 27 [.slice none 0 0, .slice none 0 0]) (Nat.zero_le _)
       have lt189 := N148.out.lt
       (try simp only [World.size_alloc, World.size_drew] at bx189 lt189)
       have rv189 := Lib.hid (ex189.own rvn148.out)
       have BXn189 := Lib.hid bx189
       clear bx189 ex189
       refine wpAnyH_ready (rs := [2, 3]) (by kernel_rfl) (by simp) ?_; refine AllReadyH.cons rfl (fun K hK => ?_) (AllReadyH.cons rfl (fun K hK => ?_) (AllReadyH.nil))
       focus
        go_simp; (try simp only [Act.put, setIfInBounds_toArray, set_cons_zero, set_cons_succ]); (try go_wp2_with (go_at_call 66; refine (l1Own_any aa n c ss _ hn (h.sr.ext N189.out.ext)).mono ?_; rintro e w190 ⟨A1, c1, rfl, oc190, he1⟩)); refine hK.out _ _ (N189.out.step he1) fun hHeld => ?_; clear hK K; (try simp only [Act.put, setIfInBounds_toArray, set_cons_zero, set_cons_succ])
        have rv190 := Lib.hid (he1.own rv189.out)
        have BX190 := Lib.hid (he1.own BXn189.out)
        have N190 := Lib.hid (N189.out.step he1)
        have rin190 := Lib.hid (own_low' oc190 (show w.heap.size + 3 ≤ _ from N189.out.lt))
        clear oc190 he1
        have ltv191 := (rv190.out.lt _ rfl).2
        (try simp only [World.size_alloc, World.size_drew] at ltv191)
        have ex191 := (Ext.refl (w190)).alloc (.cells #[] 61)
        have N191 := Lib.hid (N190.out.step ex191)
        refine rdy 3 (by kernel_rfl) rfl fun K hK => ?_; go_simp; (try simp only [Act.put, setIfInBounds_toArray, set_cons_zero, set_cons_succ]); (try go_wp2_with fail); refine hK.out _ _ N191.out fun hHeld => ?_; clear hK K; (try simp only [Act.put, setIfInBounds_toArray, set_cons_zero, set_cons_succ])
        have bx191 := own_empty (w190) (w.heap.size + 3) 61 4 (show w.heap.size + 3 ≤ _ from N190.out.lt)
        have lt191 := N190.out.lt
        (try simp only [World.size_alloc, World.size_drew] at bx191 lt191)
        have rv191 := Lib.hid (ex191.own rv190.out)
        have BX191 := Lib.hid (ex191.own BX190.out)
        have ri191 := Lib.hid (ex191.own rin190.out)
        have rbn191 := Lib.hid bx191
        clear bx191 ex191
        have NE := Lib.hid (show ∀ k, Value.ownBlock (.slice (some ⟨w190.heap.size, 0, none⟩) 0 0) = some k → k ≠ wc.heap.size from fun k hk => by have h2 : some (w190.heap.size) = some k := hk; injection h2 with h2; have h3 := ltv191; omega)
        refine rdy 8 (by kernel_rfl) rfl fun K hK => ?_; refine step_app_ban rfl (.tmp 40) (.tmp 44) rfl (w.heap.size + 3) _ 0 [] rfl rbn191.out ⟨bb, off, none⟩ kp d ((bs.take kp).flatMap Ban.cs) rfl HL1.out (HS1.out _ N191.out.ext) (bans_one _) (by omega) N191.out.lt 45 rfl kp (Nat.zero_add kp) ((bs.take kp).flatMap Ban.cs) (List.nil_append _) ?_; intro Ap192 cp192 w192 op192 gp192; have N192 := Lib.hid (N191.out.grow gp192 rbn191.out); have rv192 := Lib.hid (rv191.out.kept gp192 (Or.inr (fun e => NE.out _ e.symm rfl))); have BX192 := Lib.hid (BX191.out.kept gp192 (own_types BX191.out rbn191.out tabBan)); have ri192 := Lib.hid (ri191.out.kept gp192 (own_types ri191.out rbn191.out intBan)); have rb192 := Lib.hid op192; clear op192 gp192; refine hK.out _ _ N192.out fun hHeld => ?_; clear hK K; (try simp only [Act.put, setIfInBounds_toArray, set_cons_zero, set_cons_succ])
        refine rdy 11 (by kernel_rfl) rfl fun K hK => ?_; refine step_app_ban rfl (.tmp 45) (.tmp 47) rfl (w.heap.size + 3) _ kp ((bs.take kp).flatMap Ban.cs) rfl rb192.out ⟨wc.heap.size, 0, none⟩ 1 1 b.cs rfl (Ban.len b) (fun j u hj => by rw [Addr.add_mid, Nat.zero_add]; exact own_at rv192.out hj) HBO.out (by omega) N192.out.lt 48 rfl (kp + 1) rfl (((bs.take kp).flatMap Ban.cs) ++ b.cs) rfl ?_; intro Ap193 cp193 w193 op193 gp193; have N193 := Lib.hid (N192.out.grow gp193 rb192.out); have BX193 := Lib.hid (BX192.out.kept gp193 (own_types BX192.out rb192.out tabBan)); have ri193 := Lib.hid (ri192.out.kept gp193 (own_types ri192.out rb192.out intBan)); have rb193 := Lib.hid op193; clear op193 gp193; refine hK.out _ _ N193.out fun hHeld => ?_; clear hK K; (try simp only [Act.put, setIfInBounds_toArray, set_cons_zero, set_cons_succ])
        refine rdy 16 (by kernel_rfl) rfl fun K hK => ?_; refine step_app_ban rfl (.tmp 48) (.tmp 52) rfl (w.heap.size + 3) _ (kp + 1) (((bs.take kp).flatMap Ban.cs) ++ b.cs) rfl rb193.out A2 (m - kp) (d - kp) ((bs.drop kp).flatMap Ban.cs) rfl HL2.out (hsrc.out _ N193.out.ext) (bans_one _) (by omega) N193.out.lt 53 rfl (m + 1) hmk ((insB bs b).flatMap Ban.cs) HE.out ?_; intro A9 c9 w194 op194 gp194; have N194 := Lib.hid (N193.out.grow gp194 rb193.out); have BX194 := Lib.hid (BX193.out.kept gp194 (own_types BX193.out rb193.out tabBan)); have ri194 := Lib.hid (ri193.out.kept gp194 (own_types ri193.out rb193.out intBan)); have rb194 := Lib.hid op194; clear op194 gp194; refine hK.out _ _ N194.out fun hHeld => ?_; clear hK K; (try simp only [Act.put, setIfInBounds_toArray, set_cons_zero, set_cons_succ])
        refine wpAnyH_take (i := 17) (v := ?_) rfl (by kernel_rfl) (by kernel_rfl) (by kernel_rfl) (fun _ _ _ h => h) (Or.inl ⟨by rfl, ?_⟩) hHeld ?_; rotate_left 1; (focus (intro w hSw; go_simp; (try with_reducible rfl))); (try simp only [Act.put, setIfInBounds_toArray, set_cons_zero, set_cons_succ])
        have BXF := Lib.hid BX194.out
        have NF := Lib.hid N194.out
        have RBF := Lib.hid rb194.out
        have RIF := Lib.hid ri194.out
        have zx : w.heap.size + 2 < (wc.heap.size + 1) := lt189
        obtain ⟨xb, hxb⟩ : ∃ xb, (wc.heap.size + 1) = xb := ⟨_, rfl⟩
        rw [hxb] at BXF zx
        rw [hxb]
        clear hxb
        obtain ⟨wz, hwz⟩ : ∃ wz, w194 = wz := ⟨_, rfl⟩
        rw [hwz] at BXF NF RBF RIF
        rw [hwz]
        clear hwz
       rotate_left 1
       focus
        have ltv195 := (rv189.out.lt _ rfl).2
        (try simp only [World.size_alloc, World.size_drew] at ltv195)
        have ex195 := (Ext.refl (((wc.drew.alloc (.cells #[.int .i64 b.A, .int .i64 b.X, .int .i64 b.B, .int .i64 b.Y] 61)).alloc (.cells #[.slice none 0 0, .slice none 0 0] 27)))).alloc (.cells #[] 61)
        have N195 := Lib.hid (N189.out.step ex195)
        go_simp; (try simp only [Act.put, setIfInBounds_toArray, set_cons_zero, set_cons_succ]); (try go_wp2_with fail); refine hK.out _ _ N195.out fun hHeld => ?_; clear hK K; (try simp only [Act.put, setIfInBounds_toArray, set_cons_zero, set_cons_succ])
        have bx195 := own_empty (((wc.drew.alloc (.cells #[.int .i64 b.A, .int .i64 b.X, .int .i64 b.B, .int .i64 b.Y] 61)).alloc (.cells #[.slice none 0 0, .slice none 0 0] 27))) (w.heap.size + 3) 61 4 (show w.heap.size + 3 ≤ _ from N189.out.lt)
        have lt195 := N189.out.lt
        (try simp only [World.size_alloc, World.size_drew] at bx195 lt195)
        have rv195 := Lib.hid (ex195.own rv189.out)
        have BX195 := Lib.hid (ex195.own BXn189.out)
        have rbn195 := Lib.hid bx195
        clear bx195 ex195
        have NE := Lib.hid (show ∀ k, Value.ownBlock (.slice (some ⟨((wc.heap.size + 1) + 1), 0, none⟩) 0 0) = some k → k ≠ wc.heap.size from fun k hk => by have h2 : some (((wc.heap.size + 1) + 1)) = some k := hk; injection h2 with h2; have h3 := ltv195; omega)
        refine rdy 2 (by kernel_rfl) rfl fun K hK => ?_; go_simp; (try simp only [Act.put, setIfInBounds_toArray, set_cons_zero, set_cons_succ]); (try go_wp2_with (go_at_call 66; refine (l1Own_any aa n c ss _ hn (h.sr.ext N195.out.ext)).mono ?_; rintro e w196 ⟨A1, c1, rfl, oc196, he1⟩)); refine hK.out _ _ (N195.out.step he1) fun hHeld => ?_; clear hK K; (try simp only [Act.put, setIfInBounds_toArray, set_cons_zero, set_cons_succ])
        have rv196 := Lib.hid (he1.own rv195.out)
        have BX196 := Lib.hid (he1.own BX195.out)
        have rb196 := Lib.hid (he1.own rbn195.out)
        have N196 := Lib.hid (N195.out.step he1)
        have rin196 := Lib.hid (own_low' oc196 (show w.heap.size + 3 ≤ _ from N195.out.lt))
        clear oc196 he1
        refine rdy 8 (by kernel_rfl) rfl fun K hK => ?_; refine step_app_ban rfl (.tmp 40) (.tmp 44) rfl (w.heap.size + 3) _ 0 [] rfl rb196.out ⟨bb, off, none⟩ kp d ((bs.take kp).flatMap Ban.cs) rfl HL1.out (HS1.out _ N196.out.ext) (bans_one _) (by omega) N196.out.lt 45 rfl kp (Nat.zero_add kp) ((bs.take kp).flatMap Ban.cs) (List.nil_append _) ?_; intro Ap197 cp197 w197 op197 gp197; have N197 := Lib.hid (N196.out.grow gp197 rb196.out); have rv197 := Lib.hid (rv196.out.kept gp197 (Or.inr (fun e => NE.out _ e.symm rfl))); have BX197 := Lib.hid (BX196.out.kept gp197 (own_types BX196.out rb196.out tabBan)); have ri197 := Lib.hid (rin196.out.kept gp197 (own_types rin196.out rb196.out intBan)); have rb197 := Lib.hid op197; clear op197 gp197; refine hK.out _ _ N197.out fun hHeld => ?_; clear hK K; (try simp only [Act.put, setIfInBounds_toArray, set_cons_zero, set_cons_succ])
        refine rdy 11 (by kernel_rfl) rfl fun K hK => ?_; refine step_app_ban rfl (.tmp 45) (.tmp 47) rfl (w.heap.size + 3) _ kp ((bs.take kp).flatMap Ban.cs) rfl rb197.out ⟨wc.heap.size, 0, none⟩ 1 1 b.cs rfl (Ban.len b) (fun j u hj => by rw [Addr.add_mid, Nat.zero_add]; exact own_at rv197.out hj) HBO.out (by omega) N197.out.lt 48 rfl (kp + 1) rfl (((bs.take kp).flatMap Ban.cs) ++ b.cs) rfl ?_; intro Ap198 cp198 w198 op198 gp198; have N198 := Lib.hid (N197.out.grow gp198 rb197.out); have BX198 := Lib.hid (BX197.out.kept gp198 (own_types BX197.out rb197.out tabBan)); have ri198 := Lib.hid (ri197.out.kept gp198 (own_types ri197.out rb197.out intBan)); have rb198 := Lib.hid op198; clear op198 gp198; refine hK.out _ _ N198.out fun hHeld => ?_; clear hK K; (try simp only [Act.put, setIfInBounds_toArray, set_cons_zero, set_cons_succ])
        refine rdy 16 (by kernel_rfl) rfl fun K hK => ?_; refine step_app_ban rfl (.tmp 48) (.tmp 52) rfl (w.heap.size + 3) _ (kp + 1) (((bs.take kp).flatMap Ban.cs) ++ b.cs) rfl rb198.out A2 (m - kp) (d - kp) ((bs.drop kp).flatMap Ban.cs) rfl HL2.out (hsrc.out _ N198.out.ext) (bans_one _) (by omega) N198.out.lt 53 rfl (m + 1) hmk ((insB bs b).flatMap Ban.cs) HE.out ?_; intro A9 c9 w199 op199 gp199; have N199 := Lib.hid (N198.out.grow gp199 rb198.out); have BX199 := Lib.hid (BX198.out.kept gp199 (own_types BX198.out rb198.out tabBan)); have ri199 := Lib.hid (ri198.out.kept gp199 (own_types ri198.out rb198.out intBan)); have rb199 := Lib.hid op199; clear op199 gp199; refine hK.out _ _ N199.out fun hHeld => ?_; clear hK K; (try simp only [Act.put, setIfInBounds_toArray, set_cons_zero, set_cons_succ])
        refine wpAnyH_take (i := 17) (v := ?_) rfl (by kernel_rfl) (by kernel_rfl) (by kernel_rfl) (fun _ _ _ h => h) (Or.inl ⟨by rfl, ?_⟩) hHeld ?_; rotate_left 1; (focus (intro w hSw; go_simp; (try with_reducible rfl))); (try simp only [Act.put, setIfInBounds_toArray, set_cons_zero, set_cons_succ])
        have BXF := Lib.hid BX199.out
        have NF := Lib.hid N199.out
        have RBF := Lib.hid rb199.out
        have RIF := Lib.hid ri199.out
        have zx : w.heap.size + 2 < (wc.heap.size + 1) := lt189
        obtain ⟨xb, hxb⟩ : ∃ xb, (wc.heap.size + 1) = xb := ⟨_, rfl⟩
        rw [hxb] at BXF zx
        rw [hxb]
        clear hxb
        obtain ⟨wz, hwz⟩ : ∃ wz, w199 = wz := ⟨_, rfl⟩
        rw [hwz] at BXF NF RBF RIF
        rw [hwz]
        clear hwz
       rotate_left 1
      rotate_left 2
     rotate_left 12
     focus
      have ex200 := (Ext.refl (wc.drew)).alloc (.cells #[.slice none 0 0, .slice none 0 0] 27)
      have N200 := Lib.hid (N2.out.step ex200)
      go_simp; (try simp only [Act.put, setIfInBounds_toArray, set_cons_zero, set_cons_succ]); (try go_wp2_with fail); refine hK.out _ _ N200.out fun hHeld => ?_; clear hK K; (try simp only [Act.put, setIfInBounds_toArray, set_cons_zero, set_cons_succ])
      have bx200 := own_low' (own_block (wc.drew) 27 [.slice none 0 0, .slice none 0 0]) (Nat.zero_le _)
      have lt200 := N2.out.lt
      (try simp only [World.size_alloc, World.size_drew] at bx200 lt200)
      have BXn200 := Lib.hid bx200
      clear bx200 ex200
      refine wpAnyH_ready (rs := [2, 3, 10]) (by kernel_rfl) (by simp) ?_; refine AllReadyH.cons rfl (fun K hK => ?_) (AllReadyH.cons rfl (fun K hK => ?_) (AllReadyH.cons rfl (fun K hK => ?_) (AllReadyH.nil)))
      focus
       go_simp; (try simp only [Act.put, setIfInBounds_toArray, set_cons_zero, set_cons_succ]); (try go_wp2_with (go_at_call 66; refine (l1Own_any aa n c ss _ hn (h.sr.ext N200.out.ext)).mono ?_; rintro e w201 ⟨A1, c1, rfl, oc201, he1⟩)); refine hK.out _ _ (N200.out.step he1) fun hHeld => ?_; clear hK K; (try simp only [Act.put, setIfInBounds_toArray, set_cons_zero, set_cons_succ])
       have BX201 := Lib.hid (he1.own BXn200.out)
       have N201 := Lib.hid (N200.out.step he1)
       have rin201 := Lib.hid (own_low' oc201 (show w.heap.size + 3 ≤ _ from N200.out.lt))
       clear oc201 he1
       refine wpAnyH_ready (rs := [3, 10]) (by kernel_rfl) (by simp) ?_; refine AllReadyH.cons rfl (fun K hK => ?_) (AllReadyH.cons rfl (fun K hK => ?_) (AllReadyH.nil))
       focus
        have ex202 := (Ext.refl (w201)).alloc (.cells #[] 61)
        have N202 := Lib.hid (N201.out.step ex202)
        go_simp; (try simp only [Act.put, setIfInBounds_toArray, set_cons_zero, set_cons_succ]); (try go_wp2_with fail); refine hK.out _ _ N202.out fun hHeld => ?_; clear hK K; (try simp only [Act.put, setIfInBounds_toArray, set_cons_zero, set_cons_succ])
        have bx202 := own_empty (w201) (w.heap.size + 3) 61 4 (show w.heap.size + 3 ≤ _ from N201.out.lt)
        have lt202 := N201.out.lt
        (try simp only [World.size_alloc, World.size_drew] at bx202 lt202)
        have BX202 := Lib.hid (ex202.own BX201.out)
        have ri202 := Lib.hid (ex202.own rin201.out)
        have rbn202 := Lib.hid bx202
        clear bx202 ex202
        refine wpAnyH_ready (rs := [8, 10]) (by kernel_rfl) (by simp) ?_; refine AllReadyH.cons rfl (fun K hK => ?_) (AllReadyH.cons rfl (fun K hK => ?_) (AllReadyH.nil))
        focus
         refine step_app_ban rfl (.tmp 40) (.tmp 44) rfl (w.heap.size + 3) _ 0 [] rfl rbn202.out ⟨bb, off, none⟩ kp d ((bs.take kp).flatMap Ban.cs) rfl HL1.out (HS1.out _ N202.out.ext) (bans_one _) (by omega) N202.out.lt 45 rfl kp (Nat.zero_add kp) ((bs.take kp).flatMap Ban.cs) (List.nil_append _) ?_; intro Ap203 cp203 w203 op203 gp203; have N203 := Lib.hid (N202.out.grow gp203 rbn202.out); have BX203 := Lib.hid (BX202.out.kept gp203 (own_types BX202.out rbn202.out tabBan)); have ri203 := Lib.hid (ri202.out.kept gp203 (own_types ri202.out rbn202.out intBan)); have rb203 := Lib.hid op203; clear op203 gp203; refine hK.out _ _ N203.out fun hHeld => ?_; clear hK K; (try simp only [Act.put, setIfInBounds_toArray, set_cons_zero, set_cons_succ])
         have NE := Lib.hid (show ∀ k, Value.ownBlock (.slice Ap203 kp cp203) = some k → k ≠ w203.heap.size from fun k hk => by have hh := (rb203.out.lt k hk).2; (try simp only [World.size_alloc, World.size_drew] at hh); omega)
         have ex204 := (Ext.refl (w203)).alloc (.cells #[.int .i64 b.A, .int .i64 b.X, .int .i64 b.B, .int .i64 b.Y] 61)
         have N204 := Lib.hid (N203.out.step ex204)
         refine rdy 10 (by kernel_rfl) rfl fun K hK => ?_; go_simp; (try simp only [Act.put, setIfInBounds_toArray, set_cons_zero, set_cons_succ]); (try go_wp2_with fail); refine hK.out _ _ N204.out fun hHeld => ?_; clear hK K; (try simp only [Act.put, setIfInBounds_toArray, set_cons_zero, set_cons_succ])
         have bx204 := own_low' (own_block (w203) 61 [.int .i64 b.A, .int .i64 b.X, .int .i64 b.B, .int .i64 b.Y]) (Nat.zero_le _)
         have lt204 := N203.out.lt
         (try simp only [World.size_alloc, World.size_drew] at bx204 lt204)
         have BX204 := Lib.hid (ex204.own BX203.out)
         have ri204 := Lib.hid (ex204.own ri203.out)
         have rb204 := Lib.hid (ex204.own rb203.out)
         have rvn204 := Lib.hid bx204
         clear bx204 ex204
         refine rdy 11 (by kernel_rfl) rfl fun K hK => ?_; refine step_app_ban rfl (.tmp 45) (.tmp 47) rfl (w.heap.size + 3) _ kp ((bs.take kp).flatMap Ban.cs) rfl rb204.out ⟨w203.heap.size, 0, none⟩ 1 1 b.cs rfl (Ban.len b) (fun j u hj => by rw [Addr.add_mid, Nat.zero_add]; exact own_at rvn204.out hj) HBO.out (by omega) N204.out.lt 48 rfl (kp + 1) rfl (((bs.take kp).flatMap Ban.cs) ++ b.cs) rfl ?_; intro Ap205 cp205 w205 op205 gp205; have N205 := Lib.hid (N204.out.grow gp205 rb204.out); have BX205 := Lib.hid (BX204.out.kept gp205 (own_types BX204.out rb204.out tabBan)); have ri205 := Lib.hid (ri204.out.kept gp205 (own_types ri204.out rb204.out intBan)); have rb205 := Lib.hid op205; clear op205 gp205; refine hK.out _ _ N205.out fun hHeld => ?_; clear hK K; (try simp only [Act.put, setIfInBounds_toArray, set_cons_zero, set_cons_succ])
         refine rdy 16 (by kernel_rfl) rfl fun K hK => ?_; refine step_app_ban rfl (.tmp 48) (.tmp 52) rfl (w.heap.size + 3) _ (kp + 1) (((bs.take kp).flatMap Ban.cs) ++ b.cs) rfl rb205.out A2 (m - kp) (d - kp) ((bs.drop kp).flatMap Ban.cs) rfl HL2.out (hsrc.out _ N205.out.ext) (bans_one _) (by omega) N205.out.lt 53 rfl (m + 1) hmk ((insB bs b).flatMap Ban.cs) HE.out ?_; intro A9 c9 w206 op206 gp206; have N206 := Lib.hid (N205.out.grow gp206 rb205.out); have BX206 := Lib.hid (BX205.out.kept gp206 (own_types BX205.out rb205.out tabBan)); have ri206 := Lib.hid (ri205.out.kept gp206 (own_types ri205.out rb205.out intBan)); have rb206 := Lib.hid op206; clear op206 gp206; refine hK.out _ _ N206.out fun hHeld => ?_; clear hK K; (try simp only [Act.put, setIfInBounds_toArray, set_cons_zero, set_cons_succ])
         refine wpAnyH_take (i := 17) (v := ?_) rfl (by kernel_rfl) (by kernel_rfl) (by kernel_rfl) (fun _ _ _ h => h) (Or.inl ⟨by rfl, ?_⟩) hHeld ?_; rotate_left 1; (focus (intro w hSw; go_simp; (try with_reducible rfl))); (try simp only [Act.put, setIfInBounds_toArray, set_cons_zero, set_cons_succ])
         have BXF := Lib.hid BX206.out
         have NF := Lib.hid N206.out
         have RBF := Lib.hid rb206.out
         have RIF := Lib.hid ri206.out
         have zx : w.heap.size + 2 < wc.heap.size := lt200
         obtain ⟨xb, hxb⟩ : ∃ xb, wc.heap.size = xb := ⟨_, rfl⟩
         rw [hxb] at BXF zx
         rw [hxb]
         clear hxb
         obtain ⟨wz, hwz⟩ : ∃ wz, w206 = wz := ⟨_, rfl⟩
         rw [hwz] at BXF NF RBF RIF
         rw [hwz]
         clear hwz
        rotate_left 1
        focus
         have NE := Lib.hid (show ∀ k, Value.ownBlock (.slice (some ⟨w201.heap.size, 0, none⟩) 0 0) = some k → k ≠ (w201.heap.size + 1) from fun k hk => by have hh := (rbn202.out.lt k hk).2; (try simp only [World.size_alloc, World.size_drew] at hh); omega)
         have ex207 := (Ext.refl ((w201.alloc (.cells #[] 61)))).alloc (.cells #[.int .i64 b.A, .int .i64 b.X, .int .i64 b.B, .int .i64 b.Y] 61)
         have N207 := Lib.hid (N202.out.step ex207)
         go_simp; (try simp only [Act.put, setIfInBounds_toArray, set_cons_zero, set_cons_succ]); (try go_wp2_with fail); refine hK.out _ _ N207.out fun hHeld => ?_; clear hK K; (try simp only [Act.put, setIfInBounds_toArray, set_cons_zero, set_cons_succ])
         have bx207 := own_low' (own_block ((w201.alloc (.cells #[] 61))) 61 [.int .i64 b.A, .int .i64 b.X, .int .i64 b.B, .int .i64 b.Y]) (Nat.zero_le _)
         have lt207 := N202.out.lt
         (try simp only [World.size_alloc, World.size_drew] at bx207 lt207)
         have BX207 := Lib.hid (ex207.own BX202.out)
         have ri207 := Lib.hid (ex207.own ri202.out)
         have rb207 := Lib.hid (ex207.own rbn202.out)
         have rvn207 := Lib.hid bx207
         clear bx207 ex207
         refine rdy 8 (by kernel_rfl) rfl fun K hK => ?_; refine step_app_ban rfl (.tmp 40) (.tmp 44) rfl (w.heap.size + 3) _ 0 [] rfl rb207.out ⟨bb, off, none⟩ kp d ((bs.take kp).flatMap Ban.cs) rfl HL1.out (HS1.out _ N207.out.ext) (bans_one _) (by omega) N207.out.lt 45 rfl kp (Nat.zero_add kp) ((bs.take kp).flatMap Ban.cs) (List.nil_append _) ?_; intro Ap208 cp208 w208 op208 gp208; have N208 := Lib.hid (N207.out.grow gp208 rb207.out); have BX208 := Lib.hid (BX207.out.kept gp208 (own_types BX207.out rb207.out tabBan)); have ri208 := Lib.hid (ri207.out.kept gp208 (own_types ri207.out rb207.out intBan)); have rv208 := Lib.hid (rvn207.out.kept gp208 (Or.inr (fun e => NE.out _ e.symm rfl))); have rb208 := Lib.hid op208; clear op208 gp208; refine hK.out _ _ N208.out fun hHeld => ?_; clear hK K; (try simp only [Act.put, setIfInBounds_toArray, set_cons_zero, set_cons_succ])
         refine rdy 11 (by kernel_rfl) rfl fun K hK => ?_; refine step_app_ban rfl (.tmp 45) (.tmp 47) rfl (w.heap.size + 3) _ kp ((bs.take kp).flatMap Ban.cs) rfl rb208.out ⟨(w201.heap.size + 1), 0, none⟩ 1 1 b.cs rfl (Ban.len b) (fun j u hj => by rw [Addr.add_mid, Nat.zero_add]; exact own_at rv208.out hj) HBO.out (by omega) N208.out.lt 48 rfl (kp + 1) rfl (((bs.take kp).flatMap Ban.cs) ++ b.cs) rfl ?_; intro Ap209 cp209 w209 op209 gp209; have N209 := Lib.hid (N208.out.grow gp209 rb208.out); have BX209 := Lib.hid (BX208.out.kept gp209 (own_types BX208.out rb208.out tabBan)); have ri209 := Lib.hid (ri208.out.kept gp209 (own_types ri208.out rb208.out intBan)); have rb209 := Lib.hid op209; clear op209 gp209; refine hK.out _ _ N209.out fun hHeld => ?_; clear hK K; (try simp only [Act.put, setIfInBounds_toArray, set_cons_zero, set_cons_succ])
         refine rdy 16 (by kernel_rfl) rfl fun K hK => ?_; refine step_app_ban rfl (.tmp 48) (.tmp 52) rfl (w.heap.size + 3) _ (kp + 1) (((bs.take kp).flatMap Ban.cs) ++ b.cs) rfl rb209.out A2 (m - kp) (d - kp) ((bs.drop kp).flatMap Ban.cs) rfl HL2.out (hsrc.out _ N209.out.ext) (bans_one _) (by omega) N209.out.lt 53 rfl (m + 1) hmk ((insB bs b).flatMap Ban.cs) HE.out ?_; intro A9 c9 w210 op210 gp210; have N210 := Lib.hid (N209.out.grow gp210 rb209.out); have BX210 := Lib.hid (BX209.out.kept gp210 (own_types BX209.out rb209.out tabBan)); have ri210 := Lib.hid (ri209.out.kept gp210 (own_types ri209.out rb209.out intBan)); have rb210 := Lib.hid op210; clear op210 gp210; refine hK.out _ _ N210.out fun hHeld => ?_; clear hK K; (try simp only [Act.put, setIfInBounds_toArray, set_cons_zero, set_cons_succ])
         refine wpAnyH_take (i := 17) (v := ?_) rfl (by kernel_rfl) (by kernel_rfl) (by kernel_rfl) (fun _ _ _ h => h) (Or.inl ⟨by rfl, ?_⟩) hHeld ?_; rotate_left 1; (focus (intro w hSw; go_simp; (try with_reducible rfl))); (try simp only [Act.put, setIfInBounds_toArray, set_cons_zero, set_cons_succ])
         have BXF := Lib.hid BX210.out
         have NF := Lib.hid N210.out
         have RBF := Lib.hid rb210.out
         have RIF := Lib.hid ri210.out
         have zx : w.heap.size + 2 < wc.heap.size := lt200
         obtain ⟨xb, hxb⟩ : ∃ xb, wc.heap.size = xb := ⟨_, rfl⟩
         rw [hxb] at BXF zx
         rw [hxb]
         clear hxb
         obtain ⟨wz, hwz⟩ : ∃ wz, w210 = wz := ⟨_, rfl⟩
         rw [hwz] at BXF NF RBF RIF
         rw [hwz]
         clear hwz
        rotate_left 1
       rotate_left 2
       focus
        have ex211 := (Ext.refl (w201)).alloc (.cells #[.int .i64 b.A, .int .i64 b.X, .int .i64 b.B, .int .i64 b.Y] 61)
        have N211 := Lib.hid (N201.out.step ex211)
        go_simp; (try simp only [Act.put, setIfInBounds_toArray, set_cons_zero, set_cons_succ]); (try go_wp2_with fail); refine hK.out _ _ N211.out fun hHeld => ?_; clear hK K; (try simp only [Act.put, setIfInBounds_toArray, set_cons_zero, set_cons_succ])
        have bx211 := own_low' (own_block (w201) 61 [.int .i64 b.A, .int .i64 b.X, .int .i64 b.B, .int .i64 b.Y]) (Nat.zero_le _)
        have lt211 := N201.out.lt
        (try simp only [World.size_alloc, World.size_drew] at bx211 lt211)
        have BX211 := Lib.hid (ex211.own BX201.out)
        have ri211 := Lib.hid (ex211.own rin201.out)
        have rvn211 := Lib.hid bx211
        clear bx211 ex211
        have ltv212 := (rvn211.out.lt _ rfl).2
        (try simp only [World.size_alloc, World.size_drew] at ltv212)
        have ex212 := (Ext.refl ((w201.alloc (.cells #[.int .i64 b.A, .int .i64 b.X, .int .i64 b.B, .int .i64 b.Y] 61)))).alloc (.cells #[] 61)
        have N212 := Lib.hid (N211.out.step ex212)
        refine rdy 3 (by kernel_rfl) rfl fun K hK => ?_; go_simp; (try simp only [Act.put, setIfInBounds_toArray, set_cons_zero, set_cons_succ]); (try go_wp2_with fail); refine hK.out _ _ N212.out fun hHeld => ?_; clear hK K; (try simp only [Act.put, setIfInBounds_toArray, set_cons_zero, set_cons_succ])
        have bx212 := own_empty ((w201.alloc (.cells #[.int .i64 b.A, .int .i64 b.X, .int .i64 b.B, .int .i64 b.Y] 61))) (w.heap.size + 3) 61 4 (show w.heap.size + 3 ≤ _ from N211.out.lt)
        have lt212 := N211.out.lt
        (try simp only [World.size_alloc, World.size_drew] at bx212 lt212)
        have BX212 := Lib.hid (ex212.own BX211.out)
        have ri212 := Lib.hid (ex212.own ri211.out)
        have rv212 := Lib.hid (ex212.own rvn211.out)
        have rbn212 := Lib.hid bx212
        clear bx212 ex212
        have NE := Lib.hid (show ∀ k, Value.ownBlock (.slice (some ⟨(w201.heap.size + 1), 0, none⟩) 0 0) = some k → k ≠ w201.heap.size from fun k hk => by have h2 : some ((w201.heap.size + 1)) = some k := hk; injection h2 with h2; have h3 := ltv212; omega)
        refine rdy 8 (by kernel_rfl) rfl fun K hK => ?_; refine step_app_ban rfl (.tmp 40) (.tmp 44) rfl (w.heap.size + 3) _ 0 [] rfl rbn212.out ⟨bb, off, none⟩ kp d ((bs.take kp).flatMap Ban.cs) rfl HL1.out (HS1.out _ N212.out.ext) (bans_one _) (by omega) N212.out.lt 45 rfl kp (Nat.zero_add kp) ((bs.take kp).flatMap Ban.cs) (List.nil_append _) ?_; intro Ap213 cp213 w213 op213 gp213; have N213 := Lib.hid (N212.out.grow gp213 rbn212.out); have BX213 := Lib.hid (BX212.out.kept gp213 (own_types BX212.out rbn212.out tabBan)); have ri213 := Lib.hid (ri212.out.kept gp213 (own_types ri212.out rbn212.out intBan)); have rv213 := Lib.hid (rv212.out.kept gp213 (Or.inr (fun e => NE.out _ e.symm rfl))); have rb213 := Lib.hid op213; clear op213 gp213; refine hK.out _ _ N213.out fun hHeld => ?_; clear hK K; (try simp only [Act.put, setIfInBounds_toArray, set_cons_zero, set_cons_succ])
        refine rdy 11 (by kernel_rfl) rfl fun K hK => ?_; refine step_app_ban rfl (.tmp 45) (.tmp 47) rfl (w.heap.size + 3) _ kp ((bs.take kp).flatMap Ban.cs) rfl rb213.out ⟨w201.heap.size, 0, none⟩ 1 1 b.cs rfl (Ban.len b) (fun j u hj => by rw [Addr.add_mid, Nat.zero_add]; exact own_at rv213.out hj) HBO.out (by omega) N213.out.lt 48 rfl (kp + 1) rfl (((bs.take kp).flatMap Ban.cs) ++ b.cs) rfl ?_; intro Ap214 cp214 w214 op214 gp214; have N214 := Lib.hid (N213.out.grow gp214 rb213.out); have BX214 := Lib.hid (BX213.out.kept gp214 (own_types BX213.out rb213.out tabBan)); have ri214 := Lib.hid (ri213.out.kept gp214 (own_types ri213.out rb213.out intBan)); have rb214 := Lib.hid op214; clear op214 gp214; refine hK.out _ _ N214.out fun hHeld => ?_; clear hK K; (try simp only [Act.put, setIfInBounds_toArray, set_cons_zero, set_cons_succ])
        refine rdy 16 (by kernel_rfl) rfl fun K hK => ?_; refine step_app_ban rfl (.tmp 48) (.tmp 52) rfl (w.heap.size + 3) _ (kp + 1) (((bs.take kp).flatMap Ban.cs) ++ b.cs) rfl rb214.out A2 (m - kp) (d - kp) ((bs.drop kp).flatMap Ban.cs) rfl HL2.out (hsrc.out _ N214.out.ext) (bans_one _) (by omega) N214.out.lt 53 rfl (m + 1) hmk ((insB bs b).flatMap Ban.cs) HE.out ?_; intro A9 c9 w215 op215 gp215; have N215 := Lib.hid (N214.out.grow gp215 rb214.out); have BX215 := Lib.hid (BX214.out.kept gp215 (own_types BX214.out rb214.out tabBan)); have ri215 := Lib.hid (ri214.out.kept gp215 (own_types ri214.out rb214.out intBan)); have rb215 := Lib.hid op215; clear op215 gp215; refine hK.out _ _ N215.out fun hHeld => ?_; clear hK K; (try simp only [Act.put, setIfInBounds_toArray, set_cons_zero, set_cons_succ])
        refine wpAnyH_take (i := 17) (v := ?_) rfl (by kernel_rfl) (by kernel_rfl) (by kernel_rfl) (fun _ _ _ h => h) (Or.inl ⟨by rfl, ?_⟩) hHeld ?_; rotate_left 1; (focus (intro w hSw; go_simp; (try with_reducible rfl))); (try simp only [Act.put, setIfInBounds_toArray, set_cons_zero, set_cons_succ])
        have BXF := Lib.hid BX215.out
        have NF := Lib.hid N215.out
        have RBF := Lib.hid rb215.out
        have RIF := Lib.hid ri215.out
        have zx : w.heap.size + 2 < wc.heap.size := lt200
        obtain ⟨xb, hxb⟩ : ∃ xb, wc.heap.size = xb := ⟨_, rfl⟩
        rw [hxb] at BXF zx
        rw [hxb]
        clear hxb
        obtain ⟨wz, hwz⟩ : ∃ wz, w215 = wz := ⟨_, rfl⟩
        rw [hwz] at BXF NF RBF RIF
        rw [hwz]
        clear hwz
       rotate_left 1
      rotate_left 3
      focus
       have ex216 := (Ext.refl ((wc.drew.alloc (.cells #[.slice none 0 0, .slice none 0 0] 27)))).alloc (.cells #[] 61)
       have N216 := Lib.hid (N200.out.step ex216)
       go_simp; (try simp only [Act.put, setIfInBounds_toArray, set_cons_zero, set_cons_succ]); (try go_wp2_with fail); refine hK.out _ _ N216.out fun hHeld => ?_; clear hK K; (try simp only [Act.put, setIfInBounds_toArray, set_cons_zero, set_cons_succ])
       have bx216 := own_empty ((wc.drew.alloc (.cells #[.slice none 0 0, .slice none 0 0] 27))) (w.heap.size + 3) 61 4 (show w.heap.size + 3 ≤ _ from N200.out.lt)
       have lt216 := N200.out.lt
       (try simp only [World.size_alloc, World.size_drew] at bx216 lt216)
       have BX216 := Lib.hid (ex216.own BXn200.out)
       have rbn216 := Lib.hid bx216
       clear bx216 ex216
       refine wpAnyH_ready (rs := [2, 10]) (by kernel_rfl) (by simp) ?_; refine AllReadyH.cons rfl (fun K hK => ?_) (AllReadyH.cons rfl (fun K hK => ?_) (AllReadyH.nil))
       focus
        go_simp; (try simp only [Act.put, setIfInBounds_toArray, set_cons_zero, set_cons_succ]); (try go_wp2_with (go_at_call 66; refine (l1Own_any aa n c ss _ hn (h.sr.ext N216.out.ext)).mono ?_; rintro e w217 ⟨A1, c1, rfl, oc217, he1⟩)); refine hK.out _ _ (N216.out.step he1) fun hHeld => ?_; clear hK K; (try simp only [Act.put, setIfInBounds_toArray, set_cons_zero, set_cons_succ])
        have BX217 := Lib.hid (he1.own BX216.out)
        have rb217 := Lib.hid (he1.own rbn216.out)
        have N217 := Lib.hid (N216.out.step he1)
        have rin217 := Lib.hid (own_low' oc217 (show w.heap.size + 3 ≤ _ from N216.out.lt))
        clear oc217 he1
        refine wpAnyH_ready (rs := [8, 10]) (by kernel_rfl) (by simp) ?_; refine AllReadyH.cons rfl (fun K hK => ?_) (AllReadyH.cons rfl (fun K hK => ?_) (AllReadyH.nil))
        focus
         refine step_app_ban rfl (.tmp 40) (.tmp 44) rfl (w.heap.size + 3) _ 0 [] rfl rb217.out ⟨bb, off, none⟩ kp d ((bs.take kp).flatMap Ban.cs) rfl HL1.out (HS1.out _ N217.out.ext) (bans_one _) (by omega) N217.out.lt 45 rfl kp (Nat.zero_add kp) ((bs.take kp).flatMap Ban.cs) (List.nil_append _) ?_; intro Ap218 cp218 w218 op218 gp218; have N218 := Lib.hid (N217.out.grow gp218 rb217.out); have BX218 := Lib.hid (BX217.out.kept gp218 (own_types BX217.out rb217.out tabBan)); have ri218 := Lib.hid (rin217.out.kept gp218 (own_types rin217.out rb217.out intBan)); have rb218 := Lib.hid op218; clear op218 gp218; refine hK.out _ _ N218.out fun hHeld => ?_; clear hK K; (try simp only [Act.put, setIfInBounds_toArray, set_cons_zero, set_cons_succ])
         have NE := Lib.hid (show ∀ k, Value.ownBlock (.slice Ap218 kp cp218) = some k → k ≠ w218.heap.size from fun k hk => by have hh := (rb218.out.lt k hk).2; (try simp only [World.size_alloc, World.size_drew] at hh); omega)
         have ex219 := (Ext.refl (w218)).alloc (.cells #[.int .i64 b.A, .int .i64 b.X, .int .i64 b.B, .int .i64 b.Y] 61)
         have N219 := Lib.hid (N218.out.step ex219)
         refine rdy 10 (by kernel_rfl) rfl fun K hK => ?_; go_simp; (try simp only [Act.put, setIfInBounds_toArray, set_cons_zero, set_cons_succ]); (try go_wp2_with fail); refine hK.out _ _ N219.out fun hHeld => ?_; clear hK K; (try simp only [Act.put, setIfInBounds_toArray, set_cons_zero, set_cons_succ])
         have bx219 := own_low' (own_block (w218) 61 [.int .i64 b.A, .int .i64 b.X, .int .i64 b.B, .int .i64 b.Y]) (Nat.zero_le _)
         have lt219 := N218.out.lt
         (try simp only [World.size_alloc, World.size_drew] at bx219 lt219)
         have BX219 := Lib.hid (ex219.own BX218.out)
         have rb219 := Lib.hid (ex219.own rb218.out)
         have ri219 := Lib.hid (ex219.own ri218.out)
         have rvn219 := Lib.hid bx219
         clear bx219 ex219
         refine rdy 11 (by kernel_rfl) rfl fun K hK => ?_; refine step_app_ban rfl (.tmp 45) (.tmp 47) rfl (w.heap.size + 3) _ kp ((bs.take kp).flatMap Ban.cs) rfl rb219.out ⟨w218.heap.size, 0, none⟩ 1 1 b.cs rfl (Ban.len b) (fun j u hj => by rw [Addr.add_mid, Nat.zero_add]; exact own_at rvn219.out hj) HBO.out (by omega) N219.out.lt 48 rfl (kp + 1) rfl (((bs.take kp).flatMap Ban.cs) ++ b.cs) rfl ?_; intro Ap220 cp220 w220 op220 gp220; have N220 := Lib.hid (N219.out.grow gp220 rb219.out); have BX220 := Lib.hid (BX219.out.kept gp220 (own_types BX219.out rb219.out tabBan)); have ri220 := Lib.hid (ri219.out.kept gp220 (own_types ri219.out rb219.out intBan)); have rb220 := Lib.hid op220; clear op220 gp220; refine hK.out _ _ N220.out fun hHeld => ?_; clear hK K; (try simp only [Act.put, setIfInBounds_toArray, set_cons_zero, set_cons_succ])
         refine rdy 16 (by kernel_rfl) rfl fun K hK => ?_; refine step_app_ban rfl (.tmp 48) (.tmp 52) rfl (w.heap.size + 3) _ (kp + 1) (((bs.take kp).flatMap Ban.cs) ++ b.cs) rfl rb220.out A2 (m - kp) (d - kp) ((bs.drop kp).flatMap Ban.cs) rfl HL2.out (hsrc.out _ N220.out.ext) (bans_one _) (by omega) N220.out.lt 53 rfl (m + 1) hmk ((insB bs b).flatMap Ban.cs) HE.out ?_; intro A9 c9 w221 op221 gp221; have N221 := Lib.hid (N220.out.grow gp221 rb220.out); have BX221 := Lib.hid (BX220.out.kept gp221 (own_types BX220.out rb220.out tabBan)); have ri221 := Lib.hid (ri220.out.kept gp221 (own_types ri220.out rb220.out intBan)); have rb221 := Lib.hid op221; clear op221 gp221; refine hK.out _ _ N221.out fun hHeld => ?_; clear hK K; (try simp only [Act.put, setIfInBounds_toArray, set_cons_zero, set_cons_succ])
         refine wpAnyH_take (i := 17) (v := ?_) rfl (by kernel_rfl) (by kernel_rfl) (by kernel_rfl) (fun _ _ _ h => h) (Or.inl ⟨by rfl, ?_⟩) hHeld ?_; rotate_left 1; (focus (intro w hSw; go_simp; (try with_reducible rfl))); (try simp only [Act.put, setIfInBounds_toArray, set_cons_zero, set_cons_succ])
         have BXF := Lib.hid BX221.out
         have NF := Lib.hid N221.out
         have RBF := Lib.hid rb221.out
         have RIF := Lib.hid ri221.out
         have zx : w.heap.size + 2 < wc.heap.size := lt200
         obtain ⟨xb, hxb⟩ : ∃ xb, wc.heap.size = xb := ⟨_, rfl⟩
         rw [hxb] at BXF zx
         rw [hxb]
         clear hxb
         obtain ⟨wz, hwz⟩ : ∃ wz, w221 = wz := ⟨_, rfl⟩
         rw [hwz] at BXF NF RBF RIF
         rw [hwz]
         clear hwz
        rotate_left 1
        focus
         have NE := Lib.hid (show ∀ k, Value.ownBlock (.slice (some ⟨(wc.heap.size + 1), 0, none⟩) 0 0) = some k → k ≠ w217.heap.size from fun k hk => by have hh := (rb217.out.lt k hk).2; (try simp only [World.size_alloc, World.size_drew] at hh); omega)
         have ex222 := (Ext.refl (w217)).alloc (.cells #[.int .i64 b.A, .int .i64 b.X, .int .i64 b.B, .int .i64 b.Y] 61)
         have N222 := Lib.hid (N217.out.step ex222)
         go_simp; (try simp only [Act.put, setIfInBounds_toArray, set_cons_zero, set_cons_succ]); (try go_wp2_with fail); refine hK.out _ _ N222.out fun hHeld => ?_; clear hK K; (try simp only [Act.put, setIfInBounds_toArray, set_cons_zero, set_cons_succ])
         have bx222 := own_low' (own_block (w217) 61 [.int .i64 b.A, .int .i64 b.X, .int .i64 b.B, .int .i64 b.Y]) (Nat.zero_le _)
         have lt222 := N217.out.lt
         (try simp only [World.size_alloc, World.size_drew] at bx222 lt222)
         have BX222 := Lib.hid (ex222.own BX217.out)
         have rb222 := Lib.hid (ex222.own rb217.out)
         have ri222 := Lib.hid (ex222.own rin217.out)
         have rvn222 := Lib.hid bx222
         clear bx222 ex222
         refine rdy 8 (by kernel_rfl) rfl fun K hK => ?_; refine step_app_ban rfl (.tmp 40) (.tmp 44) rfl (w.heap.size + 3) _ 0 [] rfl rb222.out ⟨bb, off, none⟩ kp d ((bs.take kp).flatMap Ban.cs) rfl HL1.out (HS1.out _ N222.out.ext) (bans_one _) (by omega) N222.out.lt 45 rfl kp (Nat.zero_add kp) ((bs.take kp).flatMap Ban.cs) (List.nil_append _) ?_; intro Ap223 cp223 w223 op223 gp223; have N223 := Lib.hid (N222.out.grow gp223 rb222.out); have BX223 := Lib.hid (BX222.out.kept gp223 (own_types BX222.out rb222.out tabBan)); have ri223 := Lib.hid (ri222.out.kept gp223 (own_types ri222.out rb222.out intBan)); have rv223 := Lib.hid (rvn222.out.kept gp223 (Or.inr (fun e => NE.out _ e.symm rfl))); have rb223 := Lib.hid op223; clear op223 gp223; refine hK.out _ _ N223.out fun hHeld => ?_; clear hK K; (try simp only [Act.put, setIfInBounds_toArray, set_cons_zero, set_cons_succ])
         refine rdy 11 (by kernel_rfl) rfl fun K hK => ?_; refine step_app_ban rfl (.tmp 45) (.tmp 47) rfl (w.heap.size + 3) _ kp ((bs.take kp).flatMap Ban.cs) rfl rb223.out ⟨w217.heap.size, 0, none⟩ 1 1 b.cs rfl (Ban.len b) (fun j u hj => by rw [Addr.add_mid, Nat.zero_add]; exact own_at rv223.out hj) HBO.out (by omega) N223.out.lt 48 rfl (kp + 1) rfl (((bs.take kp).flatMap Ban.cs) ++ b.cs) rfl ?_; intro Ap224 cp224 w224 op224 gp224; have N224 := Lib.hid (N223.out.grow gp224 rb223.out); have BX224 := Lib.hid (BX223.out.kept gp224 (own_types BX223.out rb223.out tabBan)); have ri224 := Lib.hid (ri223.out.kept gp224 (own_types ri223.out rb223.out intBan)); have rb224 := Lib.hid op224; clear op224 gp224; refine hK.out _ _ N224.out fun hHeld => ?_; clear hK K; (try simp only [Act.put, setIfInBounds_toArray, set_cons_zero, set_cons_succ])
         refine rdy 16 (by kernel_rfl) rfl fun K hK => ?_; refine step_app_ban rfl (.tmp 48) (.tmp 52) rfl (w.heap.size + 3) _ (kp + 1) (((bs.take kp).flatMap Ban.cs) ++ b.cs) rfl rb224.out A2 (m - kp) (d - kp) ((bs.drop kp).flatMap Ban.cs) rfl HL2.out (hsrc.out _ N224.out.ext) (bans_one _) (by omega) N224.out.lt 53 rfl (m + 1) hmk ((insB bs b).flatMap Ban.cs) HE.out ?_; intro A9 c9 w225 op225 gp225; have N225 := Lib.hid (N224.out.grow gp225 rb224.out); have BX225 := Lib.hid (BX224.out.kept gp225 (own_types BX224.out rb224.out tabBan)); have ri225 := Lib.hid (ri224.out.kept gp225 (own_types ri224.out rb224.out intBan)); have rb225 := Lib.hid op225; clear op225 gp225; refine hK.out _ _ N225.out fun hHeld => ?_; clear hK K; (try simp only [Act.put, setIfInBounds_toArray, set_cons_zero, set_cons_succ])
         refine wpAnyH_take (i := 17) (v := ?_) rfl (by kernel_rfl) (by kernel_rfl) (by kernel_rfl) (fun _ _ _ h => h) (Or.inl ⟨by rfl, ?_⟩) hHeld ?_; rotate_left 1; (focus (intro w hSw; go_simp; (try with_reducible rfl))); (try simp only [Act.put, setIfInBounds_toArray, set_cons_zero, set_cons_succ])
         have BXF := Lib.hid BX225.out
         have NF := Lib.hid N225.out
         have RBF := Lib.hid rb225.out
         have RIF := Lib.hid ri225.out
         have zx : w.heap.size + 2 < wc.heap.size := lt200
         obtain ⟨xb, hxb⟩ : ∃ xb, wc.heap.size = xb := ⟨_, rfl⟩
         rw [hxb] at BXF zx
         rw [hxb]
         clear hxb
         obtain ⟨wz, hwz⟩ : ∃ wz, w225 = wz := ⟨_, rfl⟩
         rw [hwz] at BXF NF RBF RIF
         rw [hwz]
         clear hwz
        rotate_left 1
       rotate_left 2
       focus
        have NE := Lib.hid (show ∀ k, Value.ownBlock (.slice (some ⟨(wc.heap.size + 1), 0, none⟩) 0 0) = some k → k ≠ ((wc.heap.size + 1) + 1) from fun k hk => by have hh := (rbn216.out.lt k hk).2; (try simp only [World.size_alloc, World.size_drew] at hh); omega)
        have ex226 := (Ext.refl (((wc.drew.alloc (.cells #[.slice none 0 0, .slice none 0 0] 27)).alloc (.cells #[] 61)))).alloc (.cells #[.int .i64 b.A, .int .i64 b.X, .int .i64 b.B, .int .i64 b.Y] 61)
        have N226 := Lib.hid (N216.out.step ex226)
        go_simp; (try simp only [Act.put, setIfInBounds_toArray, set_cons_zero, set_cons_succ]); (try go_wp2_with fail); refine hK.out _ _ N226.out fun hHeld => ?_; clear hK K; (try simp only [Act.put, setIfInBounds_toArray, set_cons_zero, set_cons_succ])
        have bx226 := own_low' (own_block (((wc.drew.alloc (.cells #[.slice none 0 0, .slice none 0 0] 27)).alloc (.cells #[] 61))) 61 [.int .i64 b.A, .int .i64 b.X, .int .i64 b.B, .int .i64 b.Y]) (Nat.zero_le _)
        have lt226 := N216.out.lt
        (try simp only [World.size_alloc, World.size_drew] at bx226 lt226)
        have BX226 := Lib.hid (ex226.own BX216.out)
        have rb226 := Lib.hid (ex226.own rbn216.out)
        have rvn226 := Lib.hid bx226
        clear bx226 ex226
        refine rdy 2 (by kernel_rfl) rfl fun K hK => ?_; go_simp; (try simp only [Act.put, setIfInBounds_toArray, set_cons_zero, set_cons_succ]); (try go_wp2_with (go_at_call 66; refine (l1Own_any aa n c ss _ hn (h.sr.ext N226.out.ext)).mono ?_; rintro e w227 ⟨A1, c1, rfl, oc227, he1⟩)); refine hK.out _ _ (N226.out.step he1) fun hHeld => ?_; clear hK K; (try simp only [Act.put, setIfInBounds_toArray, set_cons_zero, set_cons_succ])
        have BX227 := Lib.hid (he1.own BX226.out)
        have rb227 := Lib.hid (he1.own rb226.out)
        have rv227 := Lib.hid (he1.own rvn226.out)
        have N227 := Lib.hid (N226.out.step he1)
        have rin227 := Lib.hid (own_low' oc227 (show w.heap.size + 3 ≤ _ from N226.out.lt))
        clear oc227 he1
        refine rdy 8 (by kernel_rfl) rfl fun K hK => ?_; refine step_app_ban rfl (.tmp 40) (.tmp 44) rfl (w.heap.size + 3) _ 0 [] rfl rb227.out ⟨bb, off, none⟩ kp d ((bs.take kp).flatMap Ban.cs) rfl HL1.out (HS1.out _ N227.out.ext) (bans_one _) (by omega) N227.out.lt 45 rfl kp (Nat.zero_add kp) ((bs.take kp).flatMap Ban.cs) (List.nil_append _) ?_; intro Ap228 cp228 w228 op228 gp228; have N228 := Lib.hid (N227.out.grow gp228 rb227.out); have BX228 := Lib.hid (BX227.out.kept gp228 (own_types BX227.out rb227.out tabBan)); have rv228 := Lib.hid (rv227.out.kept gp228 (Or.inr (fun e => NE.out _ e.symm rfl))); have ri228 := Lib.hid (rin227.out.kept gp228 (own_types rin227.out rb227.out intBan)); have rb228 := Lib.hid op228; clear op228 gp228; refine hK.out _ _ N228.out fun hHeld => ?_; clear hK K; (try simp only [Act.put, setIfInBounds_toArray, set_cons_zero, set_cons_succ])
        refine rdy 11 (by kernel_rfl) rfl fun K hK => ?_; refine step_app_ban rfl (.tmp 45) (.tmp 47) rfl (w.heap.size + 3) _ kp ((bs.take kp).flatMap Ban.cs) rfl rb228.out ⟨((wc.heap.size + 1) + 1), 0, none⟩ 1 1 b.cs rfl (Ban.len b) (fun j u hj => by rw [Addr.add_mid, Nat.zero_add]; exact own_at rv228.out hj) HBO.out (by omega) N228.out.lt 48 rfl (kp + 1) rfl (((bs.take kp).flatMap Ban.cs) ++ b.cs) rfl ?_; intro Ap229 cp229 w229 op229 gp229; have N229 := Lib.hid (N228.out.grow gp229 rb228.out); have BX229 := Lib.hid (BX228.out.kept gp229 (own_types BX228.out rb228.out tabBan)); have ri229 := Lib.hid (ri228.out.kept gp229 (own_types ri228.out rb228.out intBan)); have rb229 := Lib.hid op229; clear op229 gp229; refine hK.out _ _ N229.out fun hHeld => ?_; clear hK K; (try simp only [Act.put, setIfInBounds_toArray, set_cons_zero, set_cons_succ])
        refine rdy 16 (by kernel_rfl) rfl fun K hK => ?_; refine step_app_ban rfl (.tmp 48) (.tmp 52) rfl (w.heap.size + 3) _ (kp + 1) (((bs.take kp).flatMap Ban.cs) ++ b.cs) rfl rb229.out A2 (m - kp) (d - kp) ((bs.drop kp).flatMap Ban.cs) rfl HL2.out (hsrc.out _ N229.out.ext) (bans_one _) (by omega) N229.out.lt 53 rfl (m + 1) hmk ((insB bs b).flatMap Ban.cs) HE.out ?_; intro A9 c9 w230 op230 gp230; have N230 := Lib.hid (N229.out.grow gp230 rb229.out); have BX230 := Lib.hid (BX229.out.kept gp230 (own_types BX229.out rb229.out tabBan)); have ri230 := Lib.hid (ri229.out.kept gp230 (own_types ri229.out rb229.out intBan)); have rb230 := Lib.hid op230; clear op230 gp230; refine hK.out _ _ N230.out fun hHeld => ?_; clear hK K; (try simp only [Act.put, setIfInBounds_toArray, set_cons_zero, set_cons_succ])
        refine wpAnyH_take (i := 17) (v := ?_) rfl (by kernel_rfl) (by kernel_rfl) (by kernel_rfl) (fun _ _ _ h => h) (Or.inl ⟨by rfl, ?_⟩) hHeld ?_; rotate_left 1; (focus (intro w hSw; go_simp; (try with_reducible rfl))); (try simp only [Act.put, setIfInBounds_toArray, set_cons_zero, set_cons_succ])
        have BXF := Lib.hid BX230.out
        have NF := Lib.hid N230.out
        have RBF := Lib.hid rb230.out
        have RIF := Lib.hid ri230.out
        have zx : w.heap.size + 2 < wc.heap.size := lt200
        obtain ⟨xb, hxb⟩ : ∃ xb, wc.heap.size = xb := ⟨_, rfl⟩
        rw [hxb] at BXF zx
        rw [hxb]
        clear hxb
        obtain ⟨wz, hwz⟩ : ∃ wz, w230 = wz := ⟨_, rfl⟩
        rw [hwz] at BXF NF RBF RIF
        rw [hwz]
        clear hwz
       rotate_left 1
      rotate_left 3
      focus
       have ex231 := (Ext.refl ((wc.drew.alloc (.cells #[.slice none 0 0, .slice none 0 0] 27)))).alloc (.cells #[.int .i64 b.A, .int .i64 b.X, .int .i64 b.B, .int .i64 b.Y] 61)
       have N231 := Lib.hid (N200.out.step ex231)
       go_simp; (try simp only [Act.put, setIfInBounds_toArray, set_cons_zero, set_cons_succ]); (try go_wp2_with fail); refine hK.out _ _ N231.out fun hHeld => ?_; clear hK K; (try simp only [Act.put, setIfInBounds_toArray, set_cons_zero, set_cons_succ])
       have bx231 := own_low' (own_block ((wc.drew.alloc (.cells #[.slice none 0 0, .slice none 0 0] 27))) 61 [.int .i64 b.A, .int .i64 b.X, .int .i64 b.B, .int .i64 b.Y]) (Nat.zero_le _)
       have lt231 := N200.out.lt
       (try simp only [World.size_alloc, World.size_drew] at bx231 lt231)
       have BX231 := Lib.hid (ex231.own BXn200.out)
       have rvn231 := Lib.hid bx231
       clear bx231 ex231
       refine wpAnyH_ready (rs := [2, 3]) (by kernel_rfl) (by simp) ?_; refine AllReadyH.cons rfl (fun K hK => ?_) (AllReadyH.cons rfl (fun K hK => ?_) (AllReadyH.nil))
       focus
        go_simp; (try simp only [Act.put, setIfInBounds_toArray, set_cons_zero, set_cons_succ]); (try go_wp2_with (go_at_call 66; refine (l1Own_any aa n c ss _ hn (h.sr.ext N231.out.ext)).mono ?_; rintro e w232 ⟨A1, c1, rfl, oc232, he1⟩)); refine hK.out _ _ (N231.out.step he1) fun hHeld => ?_; clear hK K; (try simp only [Act.put, setIfInBounds_toArray, set_cons_zero, set_cons_succ])
        have BX232 := Lib.hid (he1.own BX231.out)
        have rv232 := Lib.hid (he1.own rvn231.out)
        have N232 := Lib.hid (N231.out.step he1)
        have rin232 := Lib.hid (own_low' oc232 (show w.heap.size + 3 ≤ _ from N231.out.lt))
        clear oc232 he1
        have ltv233 := (rv232.out.lt _ rfl).2
        (try simp only [World.size_alloc, World.size_drew] at ltv233)
        have ex233 := (Ext.refl (w232)).alloc (.cells #[] 61)
        have N233 := Lib.hid (N232.out.step ex233)
        refine rdy 3 (by kernel_rfl) rfl fun K hK => ?_; go_simp; (try simp only [Act.put, setIfInBounds_toArray, set_cons_zero, set_cons_succ]); (try go_wp2_with fail); refine hK.out _ _ N233.out fun hHeld => ?_; clear hK K; (try simp only [Act.put, setIfInBounds_toArray, set_cons_zero, set_cons_succ])
        have bx233 := own_empty (w232) (w.heap.size + 3) 61 4 (show w.heap.size + 3 ≤ _ from N232.out.lt)
        have lt233 := N232.out.lt
        (try simp only [World.size_alloc, World.size_drew] at bx233 lt233)
        have BX233 := Lib.hid (ex233.own BX232.out)
        have rv233 := Lib.hid (ex233.own rv232.out)
        have ri233 := Lib.hid (ex233.own rin232.out)
        have rbn233 := Lib.hid bx233
        clear bx233 ex233
        have NE := Lib.hid (show ∀ k, Value.ownBlock (.slice (some ⟨w232.heap.size, 0, none⟩) 0 0) = some k → k ≠ (wc.heap.size + 1) from fun k hk => by have h2 : some (w232.heap.size) = some k := hk; injection h2 with h2; have h3 := ltv233; omega)
        refine rdy 8 (by kernel_rfl) rfl fun K hK => ?_; refine step_app_ban rfl (.tmp 40) (.tmp 44) rfl (w.heap.size + 3) _ 0 [] rfl rbn233.out ⟨bb, off, none⟩ kp d ((bs.take kp).flatMap Ban.cs) rfl HL1.out (HS1.out _ N233.out.ext) (bans_one _) (by omega) N233.out.lt 45 rfl kp (Nat.zero_add kp) ((bs.take kp).flatMap Ban.cs) (List.nil_append _) ?_; intro Ap234 cp234 w234 op234 gp234; have N234 := Lib.hid (N233.out.grow gp234 rbn233.out); have BX234 := Lib.hid (BX233.out.kept gp234 (own_types BX233.out rbn233.out tabBan)); have rv234 := Lib.hid (rv233.out.kept gp234 (Or.inr (fun e => NE.out _ e.symm rfl))); have ri234 := Lib.hid (ri233.out.kept gp234 (own_types ri233.out rbn233.out intBan)); have rb234 := Lib.hid op234; clear op234 gp234; refine hK.out _ _ N234.out fun hHeld => ?_; clear hK K; (try simp only [Act.put, setIfInBounds_toArray, set_cons_zero, set_cons_succ])
        refine rdy 11 (by kernel_rfl) rfl fun K hK => ?_; refine step_app_ban rfl (.tmp 45) (.tmp 47) rfl (w.heap.size + 3) _ kp ((bs.take kp).flatMap Ban.cs) rfl rb234.out ⟨(wc.heap.size + 1), 0, none⟩ 1 1 b.cs rfl (Ban.len b) (fun j u hj => by rw [Addr.add_mid, Nat.zero_add]; exact own_at rv234.out hj) HBO.out (by omega) N234.out.lt 48 rfl (kp + 1) rfl (((bs.take kp).flatMap Ban.cs) ++ b.cs) rfl ?_; intro Ap235 cp235 w235 op235 gp235; have N235 := Lib.hid (N234.out.grow gp235 rb234.out); have BX235 := Lib.hid (BX234.out.kept gp235 (own_types BX234.out rb234.out tabBan)); have ri235 := Lib.hid (ri234.out.kept gp235 (own_types ri234.out rb234.out intBan)); have rb235 := Lib.hid op235; clear op235 gp235; refine hK.out _ _ N235.out fun hHeld => ?_; clear hK K; (try simp only [Act.put, setIfInBounds_toArray, set_cons_zero, set_cons_succ])
        refine rdy 16 (by kernel_rfl) rfl fun K hK => ?_; refine step_app_ban rfl (.tmp 48) (.tmp 52) rfl (w.heap.size + 3) _ (kp + 1) (((bs.take kp).flatMap Ban.cs) ++ b.cs) rfl rb235.out A2 (m - kp) (d - kp) ((bs.drop kp).flatMap Ban.cs) rfl HL2.out (hsrc.out _ N235.out.ext) (bans_one _) (by omega) N235.out.lt 53 rfl (m + 1) hmk ((insB bs b).flatMap Ban.cs) HE.out ?_; intro A9 c9 w236 op236 gp236; have N236 := Lib.hid (N235.out.grow gp236 rb235.out); have BX236 := Lib.hid (BX235.out.kept gp236 (own_types BX235.out rb235.out tabBan)); have ri236 := Lib.hid (ri235.out.kept gp236 (own_types ri235.out rb235.out intBan)); have rb236 := Lib.hid op236; clear op236 gp236; refine hK.out _ _ N236.out fun hHeld => ?_; clear hK K; (try simp only [Act.put, setIfInBounds_toArray, set_cons_zero, set_cons_succ])
        refine wpAnyH_take (i := 17) (v := ?_) rfl (by kernel_rfl) (by kernel_rfl) (by kernel_rfl) (fun _ _ _ h => h) (Or.inl ⟨by rfl, ?_⟩) hHeld ?_; rotate_left 1; (focus (intro w hSw; go_simp; (try with_reducible rfl))); (try simp only [Act.put, setIfInBounds_toArray, set_cons_zero, set_cons_succ])
        have BXF := Lib.hid BX236.out
        have NF := Lib.hid N236.out
        have RBF := Lib.hid rb236.out
        have RIF := Lib.hid ri236.out
        have zx : w.heap.size + 2 < wc.heap.size := lt200
        obtain ⟨xb, hxb⟩ : ∃ xb, wc.heap.size = xb := ⟨_, rfl⟩
        rw [hxb] at BXF zx
        rw [hxb]
        clear hxb
        obtain ⟨wz, hwz⟩ : ∃ wz, w236 = wz := ⟨_, rfl⟩
        rw [hwz] at BXF NF RBF RIF
        rw [hwz]
        clear hwz
       rotate_left 1
       focus
        have ltv237 := (rvn231.out.lt _ rfl).2
        (try simp only [World.size_alloc, World.size_drew] at ltv237)
        have ex237 := (Ext.refl (((wc.drew.alloc (.cells #[.slice none 0 0, .slice none 0 0] 27)).alloc (.cells #[.int .i64 b.A, .int .i64 b.X, .int .i64 b.B, .int .i64 b.Y] 61)))).alloc (.cells #[] 61)
        have N237 := Lib.hid (N231.out.step ex237)
        go_simp; (try simp only [Act.put, setIfInBounds_toArray, set_cons_zero, set_cons_succ]); (try go_wp2_with fail); refine hK.out _ _ N237.out fun hHeld => ?_; clear hK K; (try simp only [Act.put, setIfInBounds_toArray, set_cons_zero, set_cons_succ])
        have bx237 := own_empty (((wc.drew.alloc (.cells #[.slice none 0 0, .slice none 0 0] 27)).alloc (.cells #[.int .i64 b.A, .int .i64 b.X, .int .i64 b.B, .int .i64 b.Y] 61))) (w.heap.size + 3) 61 4 (show w.heap.size + 3 ≤ _ from N231.out.lt)
        have lt237 := N231.out.lt
        (try simp only [World.size_alloc, World.size_drew] at bx237 lt237)
        have BX237 := Lib.hid (ex237.own BX231.out)
        have rv237 := Lib.hid (ex237.own rvn231.out)
        have rbn237 := Lib.hid bx237
        clear bx237 ex237
        have NE := Lib.hid (show ∀ k, Value.ownBlock (.slice (some ⟨((wc.heap.size + 1) + 1), 0, none⟩) 0 0) = some k → k ≠ (wc.heap.size + 1) from fun k hk => by have h2 : some (((wc.heap.size + 1) + 1)) = some k := hk; injection h2 with h2; have h3 := ltv237; omega)
        refine rdy 2 (by kernel_rfl) rfl fun K hK => ?_; go_simp; (try simp only [Act.put, setIfInBounds_toArray, set_cons_zero, set_cons_succ]); (try go_wp2_with (go_at_call 66; refine (l1Own_any aa n c ss _ hn (h.sr.ext N237.out.ext)).mono ?_; rintro e w238 ⟨A1, c1, rfl, oc238, he1⟩)); refine hK.out _ _ (N237.out.step he1) fun hHeld => ?_; clear hK K; (try simp only [Act.put, setIfInBounds_toArray, set_cons_zero, set_cons_succ])
        have BX238 := Lib.hid (he1.own BX237.out)
        have rv238 := Lib.hid (he1.own rv237.out)
        have rb238 := Lib.hid (he1.own rbn237.out)
        have N238 := Lib.hid (N237.out.step he1)
        have rin238 := Lib.hid (own_low' oc238 (show w.heap.size + 3 ≤ _ from N237.out.lt))
        clear oc238 he1
        refine rdy 8 (by kernel_rfl) rfl fun K hK => ?_; refine step_app_ban rfl (.tmp 40) (.tmp 44) rfl (w.heap.size + 3) _ 0 [] rfl rb238.out ⟨bb, off, none⟩ kp d ((bs.take kp).flatMap Ban.cs) rfl HL1.out (HS1.out _ N238.out.ext) (bans_one _) (by omega) N238.out.lt 45 rfl kp (Nat.zero_add kp) ((bs.take kp).flatMap Ban.cs) (List.nil_append _) ?_; intro Ap239 cp239 w239 op239 gp239; have N239 := Lib.hid (N238.out.grow gp239 rb238.out); have BX239 := Lib.hid (BX238.out.kept gp239 (own_types BX238.out rb238.out tabBan)); have rv239 := Lib.hid (rv238.out.kept gp239 (Or.inr (fun e => NE.out _ e.symm rfl))); have ri239 := Lib.hid (rin238.out.kept gp239 (own_types rin238.out rb238.out intBan)); have rb239 := Lib.hid op239; clear op239 gp239; refine hK.out _ _ N239.out fun hHeld => ?_; clear hK K; (try simp only [Act.put, setIfInBounds_toArray, set_cons_zero, set_cons_succ])
        refine rdy 11 (by kernel_rfl) rfl fun K hK => ?_; refine step_app_ban rfl (.tmp 45) (.tmp 47) rfl (w.heap.size + 3) _ kp ((bs.take kp).flatMap Ban.cs) rfl rb239.out ⟨(wc.heap.size + 1), 0, none⟩ 1 1 b.cs rfl (Ban.len b) (fun j u hj => by rw [Addr.add_mid, Nat.zero_add]; exact own_at rv239.out hj) HBO.out (by omega) N239.out.lt 48 rfl (kp + 1) rfl (((bs.take kp).flatMap Ban.cs) ++ b.cs) rfl ?_; intro Ap240 cp240 w240 op240 gp240; have N240 := Lib.hid (N239.out.grow gp240 rb239.out); have BX240 := Lib.hid (BX239.out.kept gp240 (own_types BX239.out rb239.out tabBan)); have ri240 := Lib.hid (ri239.out.kept gp240 (own_types ri239.out rb239.out intBan)); have rb240 := Lib.hid op240; clear op240 gp240; refine hK.out _ _ N240.out fun hHeld => ?_; clear hK K; (try simp only [Act.put, setIfInBounds_toArray, set_cons_zero, set_cons_succ])
        refine rdy 16 (by kernel_rfl) rfl fun K hK => ?_; refine step_app_ban rfl (.tmp 48) (.tmp 52) rfl (w.heap.size + 3) _ (kp + 1) (((bs.take kp).flatMap Ban.cs) ++ b.cs) rfl rb240.out A2 (m - kp) (d - kp) ((bs.drop kp).flatMap Ban.cs) rfl HL2.out (hsrc.out _ N240.out.ext) (bans_one _) (by omega) N240.out.lt 53 rfl (m + 1) hmk ((insB bs b).flatMap Ban.cs) HE.out ?_; intro A9 c9 w241 op241 gp241; have N241 := Lib.hid (N240.out.grow gp241 rb240.out); have BX241 := Lib.hid (BX240.out.kept gp241 (own_types BX240.out rb240.out tabBan)); have ri241 := Lib.hid (ri240.out.kept gp241 (own_types ri240.out rb240.out intBan)); have rb241 := Lib.hid op241; clear op241 gp241; refine hK.out _ _ N241.out fun hHeld => ?_; clear hK K; (try simp only [Act.put, setIfInBounds_toArray, set_cons_zero, set_cons_succ])
        refine wpAnyH_take (i := 17) (v := ?_) rfl (by kernel_rfl) (by kernel_rfl) (by kernel_rfl) (fun _ _ _ h => h) (Or.inl ⟨by rfl, ?_⟩) hHeld ?_; rotate_left 1; (focus (intro w hSw; go_simp; (try with_reducible rfl))); (try simp only [Act.put, setIfInBounds_toArray, set_cons_zero, set_cons_succ])
        have BXF := Lib.hid BX241.out
        have NF := Lib.hid N241.out
        have RBF := Lib.hid rb241.out
        have RIF := Lib.hid ri241.out
        have zx : w.heap.size + 2 < wc.heap.size := lt200
        obtain ⟨xb, hxb⟩ : ∃ xb, wc.heap.size = xb := ⟨_, rfl⟩
        rw [hxb] at BXF zx
        rw [hxb]
        clear hxb
        obtain ⟨wz, hwz⟩ : ∃ wz, w241 = wz := ⟨_, rfl⟩
        rw [hwz] at BXF NF RBF RIF
        rw [hwz]
        clear hwz
       rotate_left 1
      rotate_left 2
     rotate_left 8
     all_goals
        obtain ⟨k0, k1, gx⟩ := tab_stored BXF.out (.slice A1 n c1) (.slice A9 (m + 1) c9)
        have NG := Lib.hid (NF.out.row gx zx)
        have RBG := Lib.hid (RBF.out.kept gx (own_types RBF.out BXF.out banTab))
        have RIG := Lib.hid (RIF.out.kept gx (own_types RIF.out BXF.out intTab))
        refine rdy 19 (by kernel_rfl) rfl fun K hK => ?_; refine step_store rfl 27 (.tmp 7) (.tmp 54) rfl xb 0 [.slice A1 n c1, .slice A9 (m + 1) c9] rfl rfl (own_there BXF.out 0 2 (by simp)) sizeTab rfl rfl ?_; (try simp only [Act.put, setIfInBounds_toArray, set_cons_zero, set_cons_succ]); refine hK.out _ _ NG.out fun hHeld => ?_; clear hK K; (try simp only [Act.put, setIfInBounds_toArray, set_cons_zero, set_cons_succ])
        refine wpAnyH_done (by kernel_rfl) ?_ _
        have K0 := Lib.hid k0
        have K1 := Lib.hid k1
        clear gx k0 k1
        (try simp only [List.getElem_toArray, List.getElem_cons_succ, List.getElem_cons_zero, List.setIfInBounds_toArray, List.set_cons_succ, List.set_cons_zero])
        go_wp2
        go_meet
        exact ⟨xb, A1, c1, A9, c9, rfl, zx, K0.out, K1.out, NG.out, RIG.out, RBG.out⟩
    case rest =>
      obtain ⟨xb, A1, c1, A9, c9, rfl, zx, k0, k1, hNF, hri, hrb⟩ := hcut
      have NF := Lib.hid hNF
      have RIF := Lib.hid hri
      have RBF := Lib.hid hrb
      have TF := Lib.hid (show TabL wc A1 n A9 (m + 1) ss (insB bs b) from ⟨h.sl, h.sm, h.sw, Rd.own hri, ⟨by rw [HIL.out, HB.out], by omega, fun x hx => by (rw [HIN.out] at hx; rcases List.mem_append.1 hx with hx | hx; exact h.bl.wf x (List.mem_of_mem_take hx); rcases List.mem_cons.1 hx with rfl | hx; exact hbw; exact h.bl.wf x (List.mem_of_mem_drop hx)), Rd.own hrb⟩⟩)
      have CK := Lib.hid (l6Good_any A1 n c1 A9 (m + 1) c9 ss (insB bs b) wc TF.out)
      have hxz : xb < wc.heap.size := World.block_lt_of_cell? wc _ k0
      have K0 := Lib.hid k0
      have K1 := Lib.hid k1
      clear TF hNF hri hrb hA2 ltz lty ltx N2
      cases hT : TabOk ss (insB bs b)
      · rw [hT] at CK
        go_wp2_with (first | (go_at_call 23; refine CK.out.mono ?_; rintro e w6 ⟨rfl, h6⟩; have N6 := Lib.hid (NF.out.step h6)) | (refine wpList_store_own rfl 27 (.tmp 4) (.tmp 58) rfl (w.heap.size + 2) 0 [.slice none 0 0, .slice none 0 0] rfl rfl 0 27 2 1 1 _ N6.out.r (by simp) sizeTab rfl ?_; intro w7 ho7 hg7))
        have r0 := own_at ho7 (j := 0) rfl
        have r1 := own_at ho7 (j := 1) rfl
        try rw [hT]
        exact bodyPost_ret (v := .tuple #[.agg #[.slice none 0 0, .slice none 0 0], .bool false]) (by simp [results, Tryd.results53, go_sem, r0, r1]) rfl ⟨none, 0, 0, none, 0, 0, rfl, own_nil _ _ _ _, own_nil _ _ _ _, N6.out.ext.row hg7 (by omega)⟩
      · rw [hT] at CK
        go_wp2_with (first | (go_at_call 23; refine CK.out.mono ?_; rintro e w6 ⟨rfl, h6⟩; have N6 := Lib.hid (NF.out.step h6); have k0 := h6.cell1 K0.out; have k1 := h6.cell1 K1.out; have hxz : xb < w6.heap.size := World.block_lt_of_cell? w6 _ k0) | (refine wpList_store_own rfl 27 (.tmp 4) (.tmp 59) rfl (w.heap.size + 2) 0 [.slice A1 n c1, .slice A9 (m + 1) c9] rfl rfl 0 27 2 1 1 _ N6.out.r (by simp) sizeTab rfl ?_; intro w7 ho7 hg7))
        have r0 := own_at ho7 (j := 0) rfl
        have r1 := own_at ho7 (j := 1) rfl
        have ri := (h6.own RIF.out).kept hg7 (ne_row (fun k hk => by have := (RIF.out.lt k hk).1; omega))
        have rb := (h6.own RBF.out).kept hg7 (ne_row (fun k hk => by have := (RBF.out.lt k hk).1; omega))
        try rw [hT]
        exact bodyPost_ret (v := .tuple #[.agg #[.slice A1 n c1, .slice A9 (m + 1) c9], .bool true]) (by simp [results, Tryd.results53, go_sem, r0, r1]) rfl ⟨A1, n, c1, A9, m + 1, c9, rfl, own_low' ri (by omega), by rw [if_pos rfl]; exact own_low' rb (by omega), N6.out.ext.row hg7 (by omega)⟩
end Go.Proofs.YtekggbmpogmlcaaDoor
