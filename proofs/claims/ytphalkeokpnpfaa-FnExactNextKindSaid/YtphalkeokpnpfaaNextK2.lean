/- NextKind: the program's and the reference's entries, joined. -/
import Derived.Test.YtphalkeokpnpfaaNextK
namespace Go.Proofs.Ytphalkeokpnpfaa
open Go.RowKit
set_option linter.unusedVariables false
set_option linter.unusedSimpArgs false
attribute [local go_sem] ExtOf.cell

set_option maxRecDepth 100000 in
set_option maxHeartbeats 1000000 in
theorem NextKindS_any (A : Option Addr) (n c : Nat) (B : Option Addr) (m d : Nat) (ss : List Int) (bs : List Ban) (K : Option Addr) (l e : Nat) (ks : List Int) (w : World) (h : TabL w A n B m ss bs) (hl : ks.length = l) (hl2 : l ≤ 1048576) (hk : Rd w K l 1 (ints ks)) :
    Calls Try.prog 33 #[.agg #[.slice A n c, .slice B m d], .slice K l e] w (OptPost (nextK ss bs ks) w) := by
  have eW := (Ext.refl w).alloc (.cells #[.slice A n c, .slice B m d] 30)
  have C := Lib.hid (l6Good_any A n c B m d ss bs _ (h.ext eW))
  cases h1 : TabOk ss bs
  · rw [nextK_no (by simp [compP, h1])]
    go_enter Try.func33, Try.ntmps33
    go_wp2_with (go_at_call 53; refine C.out.mono ?_; rintro e we ⟨rfl, he⟩; rw [h1])
    go_ret2
    exact OptPost.empty (eW.trans he)
  obtain ⟨⟨t1, t2⟩, t3, t4, t5⟩ := TabOk_all h1
  have D := Lib.hid (fun (w' : World) (he : Ext w w') => l6Kind_any A n c B m d ss bs K l e ks w' (h.ext he) t4 hl hl2 (hk.ext he))
  have hn := h.sl
  cases h2 : KindOk ss ks
  · rw [nextK_no (by simp [compP, h2])]
    clear t4 t5 hk
    go_enter Try.func33, Try.ntmps33
    go_wp2_with (first | (go_at_call 53; refine C.out.mono ?_; rintro e we ⟨rfl, he⟩; rw [h1]; have p0 := he.cell1 (new_cell w #[.slice A n c, .slice B m d] 30 0 _ rfl); have p1 := he.cell1 (new_cell w #[.slice A n c, .slice B m d] 30 1 _ rfl); have hz : w.heap.size < we.heap.size := World.block_lt_of_cell? we _ p0) | (go_at_call 57; refine (D.out _ (eW.trans he)).mono ?_; rintro e wf ⟨rfl, hf⟩; rw [h2]; have q0 := hf.cell1 p0; have q1 := hf.cell1 p1; have hz2 : w.heap.size < wf.heap.size := World.block_lt_of_cell? wf _ q0))
    go_ret2
    exact OptPost.empty (eW.trans (he.trans hf))
  · have hln : l = n := by have := KindOk_len' h2; omega
    subst hln
    rw [nextK_yes (by simp [compP, h1, h2])]
    obtain ⟨b1, b2⟩ := numOf_bd ss ks h2
    have hA := allN_small t4 t2
    have F := Lib.hid (fun (w' : World) (he : Ext w w') => l6Number_any A l c B m d ss bs K e ks w' (h.ext he) t4 t2 h2 (hk.ext he))
    have G := Lib.hid (fun (w' : World) (he : Ext w w') (hx : (numOf ss ks + 1).toNat ≤ allN ss) => l6From_any A l c B m d ss bs (numOf ss ks + 1).toNat w' (h.ext he) t4 t2 t5 hx)
    have HX : (numOf ss ks + 1).toNat ≤ allN ss := by omega
    have hbig : numOf ss ks < 3125 := by omega
    generalize hp : numOf ss ks = p at *
    have e1 : (((p + 1).toNat : Nat) : Int) = p + 1 := by omega
    rw [e1] at G
    generalize firstFrom ss bs (p + 1).toNat = R at *
    have w1 : IntKind.i64.wrap (p + 1) = p + 1 := IntWalk.i64_in _ (by omega)
    clear t4 t5 hk hp
    go_enter Try.func33, Try.ntmps33
    go_wp2_with (first | (go_at_call 53; refine C.out.mono ?_; rintro e we ⟨rfl, he⟩; rw [h1]; have p0 := he.cell1 (new_cell w #[.slice A l c, .slice B m d] 30 0 _ rfl); have p1 := he.cell1 (new_cell w #[.slice A l c, .slice B m d] 30 1 _ rfl); have hz : w.heap.size < we.heap.size := World.block_lt_of_cell? we _ p0) | (go_at_call 57; refine (D.out _ (eW.trans he)).mono ?_; rintro e wf ⟨rfl, hf⟩; rw [h2]; have q0 := hf.cell1 p0; have q1 := hf.cell1 p1; have hz2 : w.heap.size < wf.heap.size := World.block_lt_of_cell? wf _ q0))
    have HEF := Lib.hid (eW.trans (he.trans hf))
    refine wp_region_held_drew (S := (fun w' => w'.cell? ⟨w.heap.size, 0, none⟩ = some (.slice A l c) ∧ w'.cell? ⟨w.heap.size, 1, none⟩ = some (.slice B m d))) (by kernel_rfl) ?_ (fun hHeld => ?_); (focus ((try dsimp only); (repeat' apply And.intro) <;> first | assumption | exact Ext.cell1 (Ext.drew (Ext.refl _)) (by assumption) | (simp [*, go_sem]; done) | (simp [*, go_sem, World.cell?_alloc_past]; done)))
    (refine wpAnyH_take (i := 0) (v := ?_) rfl (by kernel_rfl) (by kernel_rfl) (by kernel_rfl) (fun _ _ _ h => h) (Or.inl ⟨by rfl, ?_⟩) (by assumption) ?_); rotate_left 1; (focus (intro w hSw; (try dsimp only at hSw); go_simp; (try with_reducible rfl))); (try simp only [Act.put, List.setIfInBounds_toArray, List.set_cons_zero, List.set_cons_succ]); (refine wpAnyH_take (i := 1) (v := ?_) rfl (by kernel_rfl) (by kernel_rfl) (by kernel_rfl) (fun _ _ _ h => h) (Or.inl ⟨by rfl, ?_⟩) (by assumption) ?_); rotate_left 1; (focus (intro w hSw; (try dsimp only at hSw); go_simp; (try with_reducible rfl))); (try simp only [Act.put, List.setIfInBounds_toArray, List.set_cons_zero, List.set_cons_succ]); (refine wpAnyH_take (i := 2) (v := ?_) rfl (by kernel_rfl) (by kernel_rfl) (by kernel_rfl) (fun _ _ _ h => h) (Or.inl ⟨by rfl, ?_⟩) (by assumption) ?_); rotate_left 1; (focus (intro w hSw; (try dsimp only at hSw); go_simp; (try with_reducible rfl))); (try simp only [Act.put, List.setIfInBounds_toArray, List.set_cons_zero, List.set_cons_succ])
    refine wpAnyH_ready (rs := [3]) (by kernel_rfl) (by simp) ?_; refine AllReadyH.cons rfl (fun K hK => ?_) AllReadyH.nil; go_simp; (go_at_call 69; refine (F.out _ (HEF.out.trans (by repeat (first | exact Ext.refl _ | assumption | refine Ext.trans ?_ (by assumption) | refine Ext.drew ?_ | refine Ext.drewN ?_ _ | refine Ext.alloc ?_ _)))).mono ?_; rintro e wg ⟨rfl, he1⟩); (try go_wp2_with fail); refine hK.out _ _ ?_ (fun hHeld => ?_); (focus (((try dsimp only); go_split_ands; (repeat' apply And.intro) <;> first | assumption | exact Ext.cell1 he1 (by assumption) | (simp [*]; done) | (simp [*, go_sem, World.cell?_alloc_past]; done)))); clear hK K; (try simp only [Act.put, List.setIfInBounds_toArray, List.set_cons_zero, List.set_cons_succ])
    have HE1 := Lib.hid (HEF.out.trans ((show Ext wf wg from (by repeat (first | exact Ext.refl _ | assumption | refine Ext.trans ?_ (by assumption) | refine Ext.drew ?_ | refine Ext.drewN ?_ _ | refine Ext.alloc ?_ _)))))
    clear he1
    (refine wpAnyH_take (i := 4) (v := ?_) rfl (by kernel_rfl) (by kernel_rfl) (by kernel_rfl) (fun _ _ _ h => h) (Or.inl ⟨by rfl, ?_⟩) (by assumption) ?_); rotate_left 1; (focus (intro w hSw; (try dsimp only at hSw); go_simp; (try with_reducible rfl))); (try simp only [Act.put, List.setIfInBounds_toArray, List.set_cons_zero, List.set_cons_succ])
    refine wpAnyH_ready (rs := [5]) (by kernel_rfl) (by simp) ?_; refine AllReadyH.cons rfl (fun K hK => ?_) AllReadyH.nil; go_simp; (go_at_call 65; refine (G.out _ HE1.out HX).mono ?_; rintro e wh ⟨X, x, xc, rfl, ho, he1⟩; have HO := Lib.hid ho; clear ho); (try go_wp2_with fail); refine hK.out _ _ ?_ (fun hHeld => ?_); (focus (((try dsimp only); go_split_ands; (repeat' apply And.intro) <;> first | assumption | exact Ext.cell1 he1 (by assumption) | (simp [*]; done) | (simp [*, go_sem, World.cell?_alloc_past]; done)))); clear hK K; (try simp only [Act.put, List.setIfInBounds_toArray, List.set_cons_zero, List.set_cons_succ])
    (refine wpAnyH_take (i := 6) (v := ?_) rfl (by kernel_rfl) (by kernel_rfl) (by kernel_rfl) (fun _ _ _ h => h) (Or.inl ⟨by rfl, ?_⟩) (by assumption) ?_); rotate_left 1; (focus (intro w hSw; (try dsimp only at hSw); go_simp; (try with_reducible rfl))); (try simp only [Act.put, List.setIfInBounds_toArray, List.set_cons_zero, List.set_cons_succ]); (refine wpAnyH_take (i := 7) (v := ?_) rfl (by kernel_rfl) (by kernel_rfl) (by kernel_rfl) (fun _ _ _ h => h) (Or.inl ⟨by rfl, ?_⟩) (by assumption) ?_); rotate_left 1; (focus (intro w hSw; (try dsimp only at hSw); go_simp; (try with_reducible rfl))); (try simp only [Act.put, List.setIfInBounds_toArray, List.set_cons_zero, List.set_cons_succ]); (refine wpAnyH_take (i := 8) (v := ?_) rfl (by kernel_rfl) (by kernel_rfl) (by kernel_rfl) (fun _ _ _ h => h) (Or.inl ⟨by rfl, ?_⟩) (by assumption) ?_); rotate_left 1; (focus (intro w hSw; (try dsimp only at hSw); go_simp; (try with_reducible rfl))); (try simp only [Act.put, List.setIfInBounds_toArray, List.set_cons_zero, List.set_cons_succ]); (refine wpAnyH_take (i := 9) (v := ?_) rfl (by kernel_rfl) (by kernel_rfl) (by kernel_rfl) (fun _ _ _ h => h) (Or.inl ⟨by rfl, ?_⟩) (by assumption) ?_); rotate_left 1; (focus (intro w hSw; (try dsimp only at hSw); go_simp; (try with_reducible rfl))); (try simp only [Act.put, List.setIfInBounds_toArray, List.set_cons_zero, List.set_cons_succ]); (refine wpAnyH_take (i := 10) (v := ?_) rfl (by kernel_rfl) (by kernel_rfl) (by kernel_rfl) (fun _ _ _ h => h) (Or.inl ⟨by rfl, ?_⟩) (by assumption) ?_); rotate_left 1; (focus (intro w hSw; (try dsimp only at hSw); go_simp; (try with_reducible rfl))); (try simp only [Act.put, List.setIfInBounds_toArray, List.set_cons_zero, List.set_cons_succ])
    refine wpAnyH_done (by kernel_rfl) ?_ _
    all_goals
      go_wp2
      go_ret2
      exact ⟨X, x, xc, rfl, own_low' HO.out HE1.out.size, HE1.out.trans he1⟩
set_option maxRecDepth 100000 in
set_option maxHeartbeats 1000000 in
theorem NextKindI_any (A : Option Addr) (n c : Nat) (B : Option Addr) (m d : Nat) (ss : List Int) (bs : List Ban) (K : Option Addr) (l e : Nat) (ks : List Int) (w : World) (h : TabL w A n B m ss bs) (hl : ks.length = l) (hl2 : l ≤ 1048576) (hk : Rd w K l 1 (ints ks)) :
    Calls Try.prog 34 #[.agg #[.slice A n c, .slice B m d], .slice K l e] w (OptPost (nextK ss bs ks) w) := by
  have eW := (Ext.refl w).alloc (.cells #[.slice A n c, .slice B m d] 30)
  have C := Lib.hid (isKindTable_any w.heap.size A n c B m d ss bs _ (h.ext eW) (new_cell _ _ _ 0 _ rfl) (new_cell _ _ _ 1 _ rfl))
  cases h1 : TabOk ss bs
  · rw [nextK_no (by simp [compP, h1])]
    go_enter Try.func34, Try.ntmps34
    go_wp2_with (go_at_call 55; refine C.out.mono ?_; rintro e we ⟨rfl, he⟩; rw [h1])
    go_ret2
    exact OptPost.none (eW.trans he)
  obtain ⟨⟨t1, t2⟩, t3, t4, t5⟩ := TabOk_all h1
  have D := Lib.hid (fun (w' : World) (he : Ext w w') (p0 : w'.cell? ⟨w.heap.size, 0, none⟩ = some (.slice A n c)) => isKind_any w.heap.size A n c B m d ss bs K l e ks w' (h.ext he) p0 t4 hl hl2 (hk.ext he))
  have hn := h.sl
  cases h2 : KindOk ss ks
  · rw [nextK_no (by simp [compP, h2])]
    clear t4 t5 hk
    go_enter Try.func34, Try.ntmps34
    go_wp2_with (first | (go_at_call 55; refine C.out.mono ?_; rintro e we ⟨rfl, he⟩; rw [h1]; have p0 := he.cell1 (new_cell w #[.slice A n c, .slice B m d] 30 0 _ rfl); have p1 := he.cell1 (new_cell w #[.slice A n c, .slice B m d] 30 1 _ rfl)) | (go_at_call 59; refine (D.out _ (eW.trans he) p0).mono ?_; rintro e wf ⟨rfl, hf⟩; rw [h2]))
    go_ret2
    exact OptPost.none (eW.trans (he.trans hf))
  · have hln : l = n := by have := KindOk_len' h2; omega
    subst hln
    rw [nextK_yes (by simp [compP, h1, h2])]
    have F := Lib.hid (fun (w' : World) (he : Ext w w') (p0 : w'.cell? ⟨w.heap.size, 0, none⟩ = some (.slice A l c)) (p1 : w'.cell? ⟨w.heap.size, 1, none⟩ = some (.slice B m d)) => kinds_any w.heap.size A l c B m d ss bs w' (h.ext he) p0 p1 t4 t2 t5)
    have HR := Lib.hid (frees_next bs h2)
    have HFL := Lib.hid (fun x => @frees_len ss bs x)
    have RK := Lib.hid hk
    have HKL := Lib.hid hl
    have HN := Lib.hid h.sl
    generalize firstFrom ss bs (numOf ss ks + 1).toNat = R at *
    clear t4 t5 hk hl hn
    go_enter Try.func34, Try.ntmps34
    go_wp2_with (first | (go_at_call 55; refine C.out.mono ?_; rintro e we ⟨rfl, he⟩; rw [h1]; have p0 := he.cell1 (new_cell w #[.slice A l c, .slice B m d] 30 0 _ rfl); have p1 := he.cell1 (new_cell w #[.slice A l c, .slice B m d] 30 1 _ rfl)) | (go_at_call 59; refine (D.out _ (eW.trans he) p0).mono ?_; rintro e wf ⟨rfl, hf⟩; rw [h2]; have q0 := hf.cell1 p0; have q1 := hf.cell1 p1) | (go_at_call 62; refine (F.out _ (eW.trans (he.trans hf)) q0 q1).mono ?_; rintro e wg ⟨O, q, oc, zs, rfl, hzl, hzs, hL, hg⟩))
    have HL := Lib.hid hL
    have HZL := Lib.hid hzl
    have HZS := Lib.hid hzs
    have HE := Lib.hid (eW.trans (he.trans hf))
    have hcap := own_cap hL.row
    rw [hzl] at hcap
    unfold maxLen at hcap
    clear hL hzl hzs C D F p0 p1 q0 q1
    go_loopw [17] (fun i wr => ∃ j : Nat, j ≤ q ∧ i = .int .i64 j ∧ noneTo (fun x => decide (0 < lexI x ks)) (frees ss bs) j ∧ Ext wg wr) (fun i _ => q - (intOf i).toNat)
    case atStart => exact ⟨0, Nat.zero_le _, rfl, noneTo_zero _ _, Ext.refl _⟩
    case round =>
      obtain ⟨j, hjq, rfl, hno, hej⟩ := hrel
      have HNO := Lib.hid hno
      clear hno
      by_cases hlt : j < q
      · obtain ⟨o, X, xe, x, rfl, ho, hxz, g0, hown⟩ := (HL.out.ext hej).get hlt HZL.out
        have hxf := snd_get HZS.out hxz.out
        dsimp only at hxf
        have hxl : x.length = l := by rw [HFL.out x (List.mem_of_getElem? hxf)]; exact HN.out
        rw [hxl] at g0 hown
        have HC := Lib.hid (CompareL_any X xe x K e l ks wr h.sm hxl HKL.out (Rd.own hown) (RK.out.ext (HE.out.trans (hg.trans hej))))
        have HO := Lib.hid hown
        have HXF := Lib.hid hxf
        clear hown hxf hxl hxz
        cases hq : decide (0 < lexI x ks)
        · have hs := Lib.hid (noneTo_succ HNO.out HXF.out hq)
          generalize lexI x ks = cv at *
          go_wp2_with (go_at_call 70; refine HC.out.mono ?_; rintro e w' ⟨rfl, rfl⟩)
          go_roundw
          case rel => exact ⟨j + 1, by omega, by go_num, hs.out, hej⟩
          case measure => simp [intOf]; omega
        · have hs := Lib.hid (HR.out.symm.trans (find_hit HNO.out HXF.out hq))
          generalize lexI x ks = cv at *
          go_wp2_with (go_at_call 70; refine HC.out.mono ?_; rintro e w' ⟨rfl, rfl⟩)
          go_ret2
          rw [hs.out]
          exact OptPost.some (own_low' HO.out HE.out.size) (HE.out.trans (hg.trans hej))
      · obtain rfl : j = q := by omega
        have hs := Lib.hid (HR.out.symm.trans (find_miss (n := j) (by rw [← HZS.out, List.length_map, HZL.out]; exact Nat.le_refl _) HNO.out))
        go_wp2
        go_ret2
        rw [hs.out]
        exact OptPost.none (HE.out.trans (hg.trans hej))
end Go.Proofs.Ytphalkeokpnpfaa
