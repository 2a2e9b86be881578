/- ReachedBy, MissedMails. -/
import Derived.Test.YtmgpdenofkloeaaDoorEarl
import Derived.Test.YtmgpdenofkloeaaDoorApp
namespace Go.Proofs.YtmgpdenofkloeaaDoor
open Go.RowKit
set_option linter.unusedVariables false
set_option linter.unusedSimpArgs false
attribute [local go_sem] ExtOf.cell

theorem idxs_more {p : Nat → Bool} {k : Nat} (h : p k = true) : idxs p (k + 1) = idxs p k ++ [(k : Int)] := by
  simp [idxs, List.range_succ, List.filter_append, h]
def reachAt (xs : List Mail) (f m y : Int) (k : Nat) : Bool := decide (times xs f m k ≤ y)
def askR (xs : List Mail) (f m y : Int) : Bool := askM xs f m && inB y m 9999
def reachR (xs : List Mail) (f m y : Int) : List Int := if askR xs f m y then idxs (reachAt xs f m y) 10 else []
theorem reach_len {xs : List Mail} {f m y : Int} : (reachR xs f m y).length ≤ 10 := by
  unfold reachR
  split
  · exact idxs_len _ _
  · simp
def missAt (xs : List Mail) (f m : Int) (k : Nat) : Bool := match xs[k]? with
  | some x => decide (x.Leave < times xs f m x.From.toNat)
  | none => false
def missR (xs : List Mail) (f m : Int) : List Int := if askM xs f m then idxs (missAt xs f m) xs.length else []
theorem miss_len {xs : List Mail} {f m : Int} {n : Nat} (h : xs.length = n) : (missR xs f m).length ≤ n := by
  unfold missR
  split
  · rw [← h]; exact idxs_len _ _
  · simp
theorem missAt_at {xs : List Mail} {f m : Int} {k : Nat} {x : Mail} (h : xs[k]? = some x) : missAt xs f m k = decide (x.Leave < times xs f m x.From.toNat) := by simp [missAt, h]

set_option maxRecDepth 100000 in
set_option maxHeartbeats 1000000 in
theorem ReachedByI_any (A : Option Addr) (n c : Nat) (xs : List Mail) (f m y : Int) (w : World) (h : MailL w A n xs) :
    Calls Tryd.prog 14 #[.slice A n c, .int .i64 f, .int .i64 m, .int .i64 y] w (RowPost 3 1 (ints (reachR xs f m y)) (askR xs f m y) w) := by
  rcases chain4 (MailsOk xs) (inB f 0 9) (inB m 0 9999) (inB y m 9999) with h1 | ⟨h1, h2⟩ | ⟨h1, h2, h3⟩ | ⟨h1, h2, h3, h4⟩ | ⟨h1, h2, h3, h4⟩
  iterate 4
    · have ha : askR xs f m y = false := by simp [askR, askM, *]
      have hr : reachR xs f m y = [] := by simp [reachR, ha]
      rw [ha, hr]
      clear ha hr
      go_enter Tryd.func14, Tryd.ntmps14
      go_wp2_with (first | (go_at_call 22; refine (isTimetable_any _ _ _ xs _ h).mono ?_; rintro e wa ⟨rfl, he1⟩; have hc1 := he1.cells) | (go_at_call 23; refine (isOffice_any _ _).mono ?_; rintro e w' ⟨rfl, rfl⟩) | (go_at_call 24; refine (isMinute_any _ _).mono ?_; rintro e w' ⟨rfl, rfl⟩) | (go_at_call 30; refine (inRange_any _ _ _ _).mono ?_; rintro e w' ⟨rfl, rfl⟩))
      go_ret2
      exact ⟨none, 0, 0, rfl, own_nil _ _ _ _, he1⟩
  · have ha : askR xs f m y = true := by simp [askR, askM, *]
    have hr : reachR xs f m y = idxs (reachAt xs f m y) 10 := by simp [reachR, ha]
    rw [ha, hr]
    clear ha hr
    obtain ⟨m1, m2⟩ := inB_iff.1 h3
    obtain ⟨y1, y2⟩ := inB_iff.1 h4
    have HOK := Lib.hid h1
    have HF := Lib.hid h2
    have HM := Lib.hid h3
    have HB := Lib.hid (times_bd (f := f) (MailsOk_good h1) m1 m2)
    go_enter Tryd.func14, Tryd.ntmps14
    go_wp2_with (first | (go_at_call 22; refine (isTimetable_any _ _ _ xs _ h).mono ?_; rintro e wa ⟨rfl, he1⟩; have hc1 := he1.cells) | (go_at_call 23; refine (isOffice_any _ _).mono ?_; rintro e w' ⟨rfl, rfl⟩) | (go_at_call 24; refine (isMinute_any _ _).mono ?_; rintro e w' ⟨rfl, rfl⟩) | (go_at_call 30; refine (inRange_any _ _ _ _).mono ?_; rintro e w' ⟨rfl, rfl⟩) | (go_at_call 29; refine (earliest_any _ _ _ xs _ _ _ (h.ext he1) HOK.out HF.out HM.out).mono ?_; rintro e we ⟨ge, hge, rfl, oe, he2⟩))
    have hge2 : w.heap.size ≤ ge := by have := he1.size; omega
    have OE := Lib.hid (own_low oe he1.size)
    clear hc1 oe
    go_loopw [10, 37] (fun o i wr => ∃ (k : Nat) (O : Option Addr) (s oc : Nat), k ≤ 10 ∧ s ≤ k ∧ i = .int .i64 k ∧ o = .slice O s oc ∧ wr.ownsRow w.heap.size 3 1 (.slice O s oc) s (ints (idxs (reachAt xs f m y) k)) ∧ Ext w wr ∧ wr.ownsRow w.heap.size 3 1 (.slice (some ⟨ge, 0, none⟩) 10 10) 10 (ints (tlist (negF (times xs f m)))) ∧ Off O ge) (fun _ i _ => 10 - (intOf i).toNat)
    case atStart => exact ⟨0, none, 0, 0, Nat.zero_le _, Nat.le_refl _, rfl, rfl, own_nil _ _ _ _, he1.trans he2, OE.out, Off.nil _⟩
    case round =>
      obtain ⟨k, O, s, oc, hk, hsk, rfl, rfl, ho, he, hoe, hoff⟩ := hrel
      clear OE
      by_cases hlt : k < 10
      · have ck := row_cell hoe hlt
        have HO := Lib.hid ho
        have HOE := Lib.hid hoe
        clear ho hoe
        have hbd := HB.out k
        have hin := negT_in (l := y) (by omega : 0 ≤ times xs f m k) hbd.2 y2
        have HS0 := Lib.hid (idxs_no (p := reachAt xs f m y) (k := k))
        have HS1 := Lib.hid (idxs_more (p := reachAt xs f m y) (k := k))
        unfold negF at ck
        generalize negT (times xs f m k) = u at *
        have C := Lib.hid (inRange_any u 0 y)
        rw [hin] at C
        have hd : reachAt xs f m y k = decide (times xs f m k ≤ y) := rfl
        rw [← hd] at C
        clear hin hd hbd
        cases hq : reachAt xs f m y k
        · have hs := Lib.hid (HS0.out hq)
          rw [hq] at C
          clear hq HS0 HS1
          go_wp2_with (go_at_call 30; refine (C.out _).mono ?_; rintro e w' ⟨rfl, rfl⟩)
          go_roundw
          case rel => exact ⟨k + 1, O, s, oc, by omega, by omega, by go_num, rfl, by rw [hs.out]; exact HO.out, he, HOE.out, hoff⟩
          case measure => simp [intOf]; omega
        · have hs := Lib.hid (HS1.out hq)
          rw [hq] at C
          clear hq HS0 HS1
          go_wp2_with (first | (go_at_call 30; refine (C.out _).mono ?_; rintro e w' ⟨rfl, rfl⟩) | (at_builtin; refine app_int rfl (.tmp 45) (.tmp 47) rfl w.heap.size s oc wr.heap.size O _ (k : Int) rfl rfl (HO.out.alloc _) (new_cell _ _ _ 0 _ rfl) (by omega) (by have := he.size; simp only [World.size_alloc]; omega) ?_; intro O' oc' w' hown' hgrow hoff'; have hge3 : ge < wr.heap.size := (HOE.out.lt _ rfl).2))
          go_roundw
          case rel => exact ⟨k + 1, O', s + 1, oc', by omega, by omega, by go_num, rfl, by rw [hs.out]; exact hown', (he.alloc _).grown hgrow (fun k hk => (HO.out.lt k hk).1), (HOE.out.alloc _).kept hgrow hoff.apart, hoff' ge hoff (by simp only [World.size_alloc]; omega)⟩
          case measure => simp [intOf]; omega
      · obtain rfl : k = 10 := by omega
        go_wp2
        go_ret2
        exact ⟨O, s, oc, rfl, ho, he⟩

set_option maxRecDepth 100000 in
set_option maxHeartbeats 1000000 in
theorem ReachedByS_any (A : Option Addr) (n c : Nat) (xs : List Mail) (f m y : Int) (w : World) (h : MailL w A n xs) :
    Calls Tryd.prog 15 #[.slice A n c, .int .i64 f, .int .i64 m, .int .i64 y] w (RowPost 3 1 (ints (reachR xs f m y)) (askR xs f m y) w) := by
  rcases chain2 (askM xs f m) (inB y m 9999) with h1 | ⟨h1, h2⟩ | ⟨h1, h2⟩
  iterate 2
    · have ha : askR xs f m y = false := by simp [askR, *]
      have hr : reachR xs f m y = [] := by simp [reachR, ha]
      rw [ha, hr]
      clear ha hr
      go_enter Tryd.func15, Tryd.ntmps15
      go_wp2_with (first | (go_at_call 26; refine (l9Asked_any _ _ _ xs _ _ _ (h.ext ((Ext.refl _).alloc _))).mono ?_; rintro e wa ⟨rfl, he1⟩; have hc1 := he1.cells) | (go_at_call 31; refine (l1In_any _ _ _ _).mono ?_; rintro e w' ⟨rfl, rfl⟩))
      go_ret2
      exact ⟨some ⟨w.heap.size, 0, none⟩, 0, 0, rfl, he1.own (own_empty w _ _ _ (Nat.le_refl _)), ((Ext.refl _).alloc _).trans he1⟩
  · have ha : askR xs f m y = true := by simp [askR, *]
    have hr : reachR xs f m y = idxs (reachAt xs f m y) 10 := by simp [reachR, ha]
    rw [ha, hr]
    clear ha hr
    have h1' := h1
    simp only [askM, Bool.and_eq_true] at h1'
    obtain ⟨k1, k2, k3⟩ := h1'
    have HOK := Lib.hid k1
    have HF := Lib.hid k2
    have HM := Lib.hid k3
    clear k1 k2 k3
    go_enter Tryd.func15, Tryd.ntmps15
    go_wp2_with (first | (go_at_call 26; refine (l9Asked_any _ _ _ xs _ _ _ (h.ext ((Ext.refl _).alloc _))).mono ?_; rintro e wa ⟨rfl, he1⟩; have hc1 := he1.cells) | (go_at_call 31; refine (l1In_any _ _ _ _).mono ?_; rintro e w' ⟨rfl, rfl⟩) | (go_at_call 28; refine (l9Times_any _ _ _ xs _ _ _ (h.ext (((Ext.refl _).alloc _).trans he1)) HOK.out HF.out HM.out).mono ?_; rintro e we ⟨ge, hge, rfl, oe, he2⟩))
    have hge2 : w.heap.size < ge := by have := he1.size; simp only [World.size_alloc] at this; omega
    have OE := Lib.hid (own_low (b' := w.heap.size) oe (by have := he1.size; simp only [World.size_alloc] at this; omega))
    have hE := ((Ext.refl w).alloc (.cells #[] 3)).trans (he1.trans he2)
    have hO := Lib.hid ((he1.trans he2).own (own_empty w w.heap.size 3 1 (Nat.le_refl _)))
    clear hc1 oe
    go_loopw [10, 12] (fun o i wr => ∃ (k : Nat) (O : Option Addr) (s oc : Nat), k ≤ 10 ∧ s ≤ k ∧ i = .int .i64 k ∧ o = .slice O s oc ∧ wr.ownsRow w.heap.size 3 1 (.slice O s oc) s (ints (idxs (reachAt xs f m y) k)) ∧ Ext w wr ∧ wr.ownsRow w.heap.size 3 1 (.slice (some ⟨ge, 0, none⟩) 10 10) 10 (ints (tlist (times xs f m))) ∧ Off O ge) (fun _ i _ => 10 - (intOf i).toNat)
    case atStart => exact ⟨0, some ⟨w.heap.size, 0, none⟩, 0, 0, Nat.zero_le _, Nat.le_refl _, rfl, rfl, hO.out, hE, OE.out, Off.lt hge2⟩
    case round =>
      obtain ⟨k, O, s, oc, hk, hsk, rfl, rfl, ho, he, hoe, hoff⟩ := hrel
      clear OE hO hE
      by_cases hlt : k < 10
      · have ck := row_cell hoe hlt
        have HO := Lib.hid ho
        have HOE := Lib.hid hoe
        clear ho hoe
        have HS0 := Lib.hid (idxs_no (p := reachAt xs f m y) (k := k))
        have HS1 := Lib.hid (idxs_more (p := reachAt xs f m y) (k := k))
        have hd : reachAt xs f m y k = decide (times xs f m k ≤ y) := rfl
        generalize times xs f m k = u at *
        cases hq : decide (u ≤ y)
        · rw [hq] at hd
          have hs := Lib.hid (HS0.out hd)
          clear HS0 HS1 hd
          go_wp2
          go_roundw
          case rel => exact ⟨k + 1, O, s, oc, by omega, by omega, by go_num, rfl, by rw [hs.out]; exact HO.out, he, HOE.out, hoff⟩
          case measure => simp [intOf]; omega
        · rw [hq] at hd
          have hs := Lib.hid (HS1.out hd)
          clear HS0 HS1 hd
          go_wp2_with (at_builtin; refine app_int rfl (.tmp 40) (.tmp 42) rfl w.heap.size s oc wr.heap.size O _ (k : Int) rfl rfl (HO.out.alloc _) (new_cell _ _ _ 0 _ rfl) (by omega) (by have := he.size; simp only [World.size_alloc]; omega) ?_; intro O' oc' w' hown' hgrow hoff'; have hge3 : ge < wr.heap.size := (HOE.out.lt _ rfl).2)
          go_roundw
          case rel => exact ⟨k + 1, O', s + 1, oc', by omega, by omega, by go_num, rfl, by rw [hs.out]; exact hown', (he.alloc _).grown hgrow (fun k hk => (HO.out.lt k hk).1), (HOE.out.alloc _).kept hgrow hoff.apart, hoff' ge hoff (by simp only [World.size_alloc]; omega)⟩
          case measure => simp [intOf]; omega
      · obtain rfl : k = 10 := by omega
        go_wp2
        go_ret2
        exact ⟨O, s, oc, rfl, ho, he⟩

set_option maxRecDepth 100000 in
set_option maxHeartbeats 1000000 in
theorem MissedMailsI_any (A : Option Addr) (n c : Nat) (xs : List Mail) (f m : Int) (w : World) (h : MailL w A n xs) :
    Calls Tryd.prog 10 #[.slice A n c, .int .i64 f, .int .i64 m] w (RowPost 3 1 (ints (missR xs f m)) (askM xs f m) w) := by
  rcases chain3 (MailsOk xs) (inB f 0 9) (inB m 0 9999) with h1 | ⟨h1, h2⟩ | ⟨h1, h2, h3⟩ | ⟨h1, h2, h3⟩
  iterate 3
    · have ha : askM xs f m = false := by simp [askM, *]
      have hr : missR xs f m = [] := by simp [missR, ha]
      rw [ha, hr]
      clear ha hr
      go_enter Tryd.func10, Tryd.ntmps10
      go_wp2_with (first | (go_at_call 22; refine (isTimetable_any _ _ _ xs _ h).mono ?_; rintro e wa ⟨rfl, he1⟩; have hc1 := he1.cells) | (go_at_call 23; refine (isOffice_any _ _).mono ?_; rintro e w' ⟨rfl, rfl⟩) | (go_at_call 24; refine (isMinute_any _ _).mono ?_; rintro e w' ⟨rfl, rfl⟩))
      go_ret2
      exact ⟨none, 0, 0, rfl, own_nil _ _ _ _, he1⟩
  · have ha : askM xs f m = true := by simp [askM, *]
    have hr : missR xs f m = idxs (missAt xs f m) n := by simp [missR, ha, h.len]
    rw [ha, hr]
    clear ha hr
    have hsm := h.small
    obtain ⟨m1, m2⟩ := inB_iff.1 h3
    have HOK := Lib.hid h1
    have HF := Lib.hid h2
    have HM := Lib.hid h3
    have HG := Lib.hid (MailsOk_good h1)
    have HB := Lib.hid (times_bd (f := f) HG.out m1 m2)
    go_enter Tryd.func10, Tryd.ntmps10
    go_wp2_with (first | (go_at_call 22; refine (isTimetable_any _ _ _ xs _ h).mono ?_; rintro e wa ⟨rfl, he1⟩; have hc1 := he1.cells) | (go_at_call 23; refine (isOffice_any _ _).mono ?_; rintro e w' ⟨rfl, rfl⟩) | (go_at_call 24; refine (isMinute_any _ _).mono ?_; rintro e w' ⟨rfl, rfl⟩) | (go_at_call 29; refine (earliest_any _ _ _ xs _ _ _ (h.ext he1) HOK.out HF.out HM.out).mono ?_; rintro e we ⟨ge, hge, rfl, oe, he2⟩))
    have hge2 : w.heap.size ≤ ge := by have := he1.size; omega
    have OE := Lib.hid (own_low oe he1.size)
    clear hc1 oe h1 h2 h3
    go_loopw [9, 31] (fun o i wr => ∃ (k : Nat) (O : Option Addr) (s oc : Nat), k ≤ n ∧ s ≤ k ∧ i = .int .i64 k ∧ o = .slice O s oc ∧ wr.ownsRow w.heap.size 3 1 (.slice O s oc) s (ints (idxs (missAt xs f m) k)) ∧ Ext w wr ∧ wr.ownsRow w.heap.size 3 1 (.slice (some ⟨ge, 0, none⟩) 10 10) 10 (ints (tlist (negF (times xs f m)))) ∧ Off O ge) (fun _ i _ => n - (intOf i).toNat)
    case atStart => exact ⟨0, none, 0, 0, Nat.zero_le _, Nat.le_refl _, rfl, rfl, own_nil _ _ _ _, he1.trans he2, OE.out, Off.nil _⟩
    case round =>
      obtain ⟨k, O, s, oc, hk, hsk, rfl, rfl, ho, he, hoe, hoff⟩ := hrel
      clear OE
      by_cases hlt : k < n
      · obtain ⟨b, off, x, rfl, hb, hx, q0, q1, q2, q3⟩ := (h.ext he).at_ hlt
        obtain ⟨⟨a1, a2⟩, ⟨a3, a4⟩, a5, ⟨a6, a7⟩, a8, a9⟩ := good_all (HG.out x (List.mem_of_getElem? hx.out))
        have HD := Lib.hid (missAt_at (f := f) (m := m) hx.out)
        obtain ⟨l, p, q, r⟩ := x
        simp only at *
        obtain ⟨p, rfl⟩ : ∃ g : Nat, p = g := ⟨p.toNat, by omega⟩
        have hp10 : p < 10 := by omega
        have hd : missAt xs f m k = decide (l < times xs f m p) := HD.out.trans (by simp)
        have ck := row_cell hoe hp10
        have hgl : ge < wr.heap.size := (hoe.lt _ rfl).2
        have HO := Lib.hid ho
        have HOE := Lib.hid hoe
        clear ho hoe a5
        have hbd := HB.out p
        have hin := negT_in (l := l) (by omega : 0 ≤ times xs f m p) hbd.2 (by omega)
        have HS0 := Lib.hid (idxs_no (p := missAt xs f m) (k := k))
        have HS1 := Lib.hid (idxs_more (p := missAt xs f m) (k := k))
        unfold negF at ck
        generalize negT (times xs f m p) = u at *
        have C := Lib.hid (inRange_any u 0 l)
        rw [hin] at C
        clear hin
        cases hq : decide (times xs f m p ≤ l)
        · have hs := Lib.hid (HS1.out (hd.trans (by simp at hq; simpa using hq)))
          rw [hq] at C
          clear hq HS0 HS1 hd
          go_wp2
          (refine wp_region_ext_lit (by kernel_rfl) (by kernel_rfl) ?_; (repeat (go_big_quiet_step (((go_at_call 30; exact ext_call_same (C.out _)))))); refine wpQuiet_nil ?_; rintro wq ⟨⟨_, heq⟩, rfl⟩; (try dsimp only))
          have HO2 := Lib.hid ((((Ext.refl _).alloc _).trans heq).own HO.out)
          have HOE2 := Lib.hid ((((Ext.refl _).alloc _).trans heq).own HOE.out)
          have he3 := (he.alloc _).trans heq
          go_wp2_with (at_builtin; refine app_int rfl (.tmp 45) (.tmp 47) rfl w.heap.size s oc wq.heap.size O _ (k : Int) rfl rfl (HO2.out.alloc _) (new_cell _ _ _ 0 _ rfl) (by omega) (by have := he3.size; simp only [World.size_alloc]; omega) ?_; intro O' oc' w' hown' hgrow hoff'; have hge3 : ge < wq.heap.size := (HOE2.out.lt _ rfl).2)
          go_roundw
          case rel => exact ⟨k + 1, O', s + 1, oc', by omega, by omega, by go_num, rfl, by rw [hs.out]; exact hown', (he3.alloc _).grown hgrow (fun k hk => (HO2.out.lt k hk).1), (HOE2.out.alloc _).kept hgrow hoff.apart, hoff' ge hoff (by simp only [World.size_alloc]; omega)⟩
          case measure => simp [intOf]; omega
        · have hs := Lib.hid (HS0.out (hd.trans (by simp at hq; simp; omega)))
          rw [hq] at C
          clear hq HS0 HS1 hd
          go_wp2
          (refine wp_region_ext_lit (by kernel_rfl) (by kernel_rfl) ?_; (repeat (go_big_quiet_step (((go_at_call 30; exact ext_call_same (C.out _)))))); refine wpQuiet_nil ?_; rintro wq ⟨⟨_, heq⟩, rfl⟩; (try dsimp only))
          have HO2 := Lib.hid ((((Ext.refl _).alloc _).trans heq).own HO.out)
          have HOE2 := Lib.hid ((((Ext.refl _).alloc _).trans heq).own HOE.out)
          go_wp2
          go_roundw
          case rel => exact ⟨k + 1, O, s, oc, by omega, by omega, by go_num, rfl, by rw [hs.out]; exact HO2.out, (he.alloc _).trans heq, HOE2.out, hoff⟩
          case measure => simp [intOf]; omega
      · obtain rfl : n = k := by omega
        go_wp2
        go_ret2
        exact ⟨O, s, oc, rfl, ho, he⟩

set_option maxRecDepth 100000 in
set_option maxHeartbeats 1000000 in
theorem MissedMailsS_any (A : Option Addr) (n c : Nat) (xs : List Mail) (f m : Int) (w : World) (h : MailL w A n xs) :
    Calls Tryd.prog 11 #[.slice A n c, .int .i64 f, .int .i64 m] w (RowPost 3 1 (ints (missR xs f m)) (askM xs f m) w) := by
  cases h1 : askM xs f m
  · have hr : missR xs f m = [] := by simp [missR, h1]
    rw [hr]
    clear hr
    go_enter Tryd.func11, Tryd.ntmps11
    go_wp2_with (first | (go_at_call 26; refine (l9Asked_any _ _ _ xs _ _ _ (h.ext ((Ext.refl _).alloc _))).mono ?_; rintro e wa ⟨rfl, he1⟩; have hc1 := he1.cells))
    go_ret2
    exact ⟨some ⟨w.heap.size, 0, none⟩, 0, 0, rfl, he1.own (own_empty w _ _ _ (Nat.le_refl _)), ((Ext.refl _).alloc _).trans he1⟩
  · have hr : missR xs f m = idxs (missAt xs f m) n := by simp [missR, h1, h.len]
    rw [hr]
    clear hr
    have hsm := h.small
    have h1' := h1
    simp only [askM, Bool.and_eq_true] at h1'
    obtain ⟨k1, k2, k3⟩ := h1'
    have HOK := Lib.hid k1
    have HF := Lib.hid k2
    have HM := Lib.hid k3
    have HG := Lib.hid (MailsOk_good k1)
    clear k1 k2 k3
    go_enter Tryd.func11, Tryd.ntmps11
    go_wp2_with (first | (go_at_call 26; refine (l9Asked_any _ _ _ xs _ _ _ (h.ext ((Ext.refl _).alloc _))).mono ?_; rintro e wa ⟨rfl, he1⟩; have hc1 := he1.cells) | (go_at_call 28; refine (l9Times_any _ _ _ xs _ _ _ (h.ext (((Ext.refl _).alloc _).trans he1)) HOK.out HF.out HM.out).mono ?_; rintro e we ⟨ge, hge, rfl, oe, he2⟩))
    have hge2 : w.heap.size < ge := by have := he1.size; simp only [World.size_alloc] at this; omega
    have OE := Lib.hid (own_low (b' := w.heap.size) oe (by have := he1.size; simp only [World.size_alloc] at this; omega))
    have hE := ((Ext.refl w).alloc (.cells #[] 3)).trans (he1.trans he2)
    have hO := Lib.hid ((he1.trans he2).own (own_empty w w.heap.size 3 1 (Nat.le_refl _)))
    clear hc1 oe h1
    go_loopw [8, 10] (fun o i wr => ∃ (k : Nat) (O : Option Addr) (s oc : Nat), k ≤ n ∧ s ≤ k ∧ i = .int .i64 k ∧ o = .slice O s oc ∧ wr.ownsRow w.heap.size 3 1 (.slice O s oc) s (ints (idxs (missAt xs f m) k)) ∧ Ext w wr ∧ wr.ownsRow w.heap.size 3 1 (.slice (some ⟨ge, 0, none⟩) 10 10) 10 (ints (tlist (times xs f m))) ∧ Off O ge) (fun _ i _ => n - (intOf i).toNat)
    case atStart => exact ⟨0, some ⟨w.heap.size, 0, none⟩, 0, 0, Nat.zero_le _, Nat.le_refl _, rfl, rfl, hO.out, hE, OE.out, Off.lt hge2⟩
    case round =>
      obtain ⟨k, O, s, oc, hk, hsk, rfl, rfl, ho, he, hoe, hoff⟩ := hrel
      clear OE hO hE
      by_cases hlt : k < n
      · obtain ⟨b, off, x, rfl, hb, hx, q0, q1, q2, q3⟩ := (h.ext he).at_ hlt
        obtain ⟨⟨a1, a2⟩, ⟨a3, a4⟩, a5, ⟨a6, a7⟩, a8, a9⟩ := good_all (HG.out x (List.mem_of_getElem? hx.out))
        have HD := Lib.hid (missAt_at (f := f) (m := m) hx.out)
        obtain ⟨l, p, q, r⟩ := x
        simp only at *
        obtain ⟨p, rfl⟩ : ∃ g : Nat, p = g := ⟨p.toNat, by omega⟩
        have hp10 : p < 10 := by omega
        have hd : missAt xs f m k = decide (l < times xs f m p) := HD.out.trans (by simp)
        have ck := row_cell hoe hp10
        have hgl : ge < wr.heap.size := (hoe.lt _ rfl).2
        have HO := Lib.hid ho
        have HOE := Lib.hid hoe
        clear ho hoe a5
        have HS0 := Lib.hid (idxs_no (p := missAt xs f m) (k := k))
        have HS1 := Lib.hid (idxs_more (p := missAt xs f m) (k := k))
        obtain ⟨u, hu⟩ : ∃ u, times xs f m p = u := ⟨_, rfl⟩
        rw [hu] at hd ck
        clear hu
        cases hq : decide (l < u)
        · rw [hq] at hd
          have hs := Lib.hid (HS0.out hd)
          clear HS0 HS1 hd
          go_wp2
          (refine wp_region_ext_lit (by kernel_rfl) (by kernel_rfl) ?_; (repeat (go_big_quiet_step ((fail)))); refine wpQuiet_nil ?_; rintro wq ⟨⟨_, heq⟩, rfl⟩; (try dsimp only))
          have HO2 := Lib.hid (heq.own HO.out)
          have HOE2 := Lib.hid (heq.own HOE.out)
          go_wp2
          go_roundw
          case rel => exact ⟨k + 1, O, s, oc, by omega, by omega, by go_num, rfl, by rw [hs.out]; exact HO2.out, he.trans heq, HOE2.out, hoff⟩
          case measure => simp [intOf]; omega
        · rw [hq] at hd
          have hs := Lib.hid (HS1.out hd)
          clear HS0 HS1 hd
          go_wp2
          (refine wp_region_ext_lit (by kernel_rfl) (by kernel_rfl) ?_; (repeat (go_big_quiet_step ((fail)))); refine wpQuiet_nil ?_; rintro wq ⟨⟨_, heq⟩, rfl⟩; (try dsimp only))
          have HO2 := Lib.hid (heq.own HO.out)
          have HOE2 := Lib.hid (heq.own HOE.out)
          have he3 := he.trans heq
          go_wp2_with (at_builtin; refine app_int rfl (.tmp 42) (.tmp 44) rfl w.heap.size s oc wq.heap.size O _ (k : Int) rfl rfl (HO2.out.alloc _) (new_cell _ _ _ 0 _ rfl) (by omega) (by have := he3.size; simp only [World.size_alloc]; omega) ?_; intro O' oc' w' hown' hgrow hoff'; have hge3 : ge < wq.heap.size := (HOE2.out.lt _ rfl).2)
          go_roundw
          case rel => exact ⟨k + 1, O', s + 1, oc', by omega, by omega, by go_num, rfl, by rw [hs.out]; exact hown', (he3.alloc _).grown hgrow (fun k hk => (HO2.out.lt k hk).1), (HOE2.out.alloc _).kept hgrow hoff.apart, hoff' ge hoff (by simp only [World.size_alloc]; omega)⟩
          case measure => simp [intOf]; omega
      · obtain rfl : n = k := by omega
        go_wp2
        go_ret2
        exact ⟨O, s, oc, rfl, ho, he⟩
end Go.Proofs.YtmgpdenofkloeaaDoor
