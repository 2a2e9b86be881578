/- BestRoute. -/
import Derived.Test.YtmgpdenofkloeaaReach
import Derived.Test.YtmgpdenofkloeaaFirst
namespace Go.Proofs.Ytmgpdenofkloeaa
open Go.RowKit
set_option linter.unusedVariables false
set_option linter.unusedSimpArgs false
attribute [local go_sem] ExtOf.cell

/-- The first one of the best routes from f at m to t, whose end is e. -/
def best (xs : List Mail) (t e : Int) : Nat → Int → Int → List Int
  | 0, _, _ => []
  | n + 1, f, m => if f = t then [] else match xs.findIdx? (hitB xs t e f m) with
    | none => []
    | some i => match xs[i]? with
      | none => []
      | some x => (i : Int) :: best xs t e n x.To x.Arrive
theorem best_stop {xs : List Mail} {t e : Int} (n : Nat) {f m : Int} (h : f = t) : best xs t e n f m = [] := by
  cases n with
  | zero => rfl
  | succ n => rw [best, if_pos h]
theorem best_step {xs : List Mail} {t e f m : Int} {n i : Nat} {x : Mail} (h : f ≠ t) (hno : noneTo (hitB xs t e f m) xs i) (hx : xs[i]? = some x) (hp : hitB xs t e f m x = true) :
    best xs t e (n + 1) f m = (i : Int) :: best xs t e n x.To x.Arrive := by
  obtain ⟨hk, ex⟩ := List.getElem?_eq_some_iff.1 hx
  have hf : xs.findIdx? (hitB xs t e f m) = some i := by
    rw [List.findIdx?_eq_some_iff_getElem]
    refine ⟨hk, by rw [ex]; exact hp, fun j hj => ?_⟩
    have := hno xs[j] (by rw [List.mem_take_iff_getElem]; exact ⟨j, by omega, rfl⟩)
    simp [this]
  rw [best, if_neg h, hf]
  simp only [hx]
theorem best_len (xs : List Mail) (t e : Int) : ∀ (n : Nat) (f m : Int), (best xs t e n f m).length ≤ n
  | 0, f, m => by simp [best]
  | n + 1, f, m => by
    rw [best]
    split
    · simp
    · split
      · simp
      · split
        · simp
        · have := best_len xs t e n
          simp only [List.length_cons]
          rename_i x _
          have := this x.To x.Arrive
          omega
/-- What holds on the way: the state and what is still to come. -/
structure OnWay (xs : List Mail) (t e f m : Int) (fuel : Nat) (l R : List Int) : Prop where
  f1 : inB f 0 9 = true
  m1 : inB m 0 9999 = true
  tm : times xs f m t.toNat = e
  eq : R = l ++ best xs t e fuel f m
  fu : 9999 < m + fuel
  le : l.length + fuel ≤ 10000
theorem OnWay.start {xs : List Mail} {t e f m : Int} (hf : inB f 0 9 = true) (hm : inB m 0 9999 = true) (he : times xs f m t.toNat = e) : OnWay xs t e f m 10000 [] (best xs t e 10000 f m) :=
  ⟨hf, hm, he, by simp, by have := inB_iff.1 hm; omega, by simp⟩
theorem OnWay.stop {xs : List Mail} {t e f m : Int} {fuel : Nat} {l R : List Int} (h : OnWay xs t e f m fuel l R) (hf : f = t) : R = l := by rw [h.eq, best_stop _ hf, List.append_nil]
theorem OnWay.end_ {xs : List Mail} {t e f m : Int} {fuel : Nat} {l R : List Int} (h : OnWay xs t e f m fuel l R) (hok : MailsOk xs = true) (hf : f = t) : m = e := by
  obtain ⟨m1, m2⟩ := inB_iff.1 h.m1
  have := times_self (f := f) (MailsOk_good hok) m1 m2
  rw [← h.tm, ← hf, this]
theorem OnWay.step {xs : List Mail} {t e f m : Int} {fuel i : Nat} {l R : List Int} {x : Mail} (h : OnWay xs t e f m fuel l R) (hok : MailsOk xs = true) (hf : f ≠ t) (hno : noneTo (hitB xs t e f m) xs i) (hx : xs[i]? = some x) (hp : hitB xs t e f m x = true) :
    ∃ fuel', fuel = fuel' + 1 ∧ m < x.Arrive ∧ OnWay xs t e x.To x.Arrive fuel' (l ++ [(i : Int)]) R := by
  obtain ⟨m1, m2⟩ := inB_iff.1 h.m1
  have hfu := h.fu
  obtain ⟨fuel, rfl⟩ : ∃ g, fuel = g + 1 := ⟨fuel - 1, by omega⟩
  obtain ⟨p1, p2, p3⟩ := hitB_iff.1 hp
  obtain ⟨⟨a1, a2⟩, ⟨a3, a4⟩, a5, ⟨a6, a7⟩, a8, a9⟩ := good_all (MailsOk_good hok x (List.mem_of_getElem? hx))
  refine ⟨fuel, rfl, by omega, inB_iff.2 ⟨a3, a4⟩, inB_iff.2 ⟨a6, a7⟩, p3, ?_, by omega, ?_⟩
  · rw [h.eq, best_step hf hno hx hp]; simp
  · have := h.le; simp; omega
theorem OnWay.goes {xs : List Mail} {t e f m : Int} {fuel : Nat} {l R : List Int} (h : OnWay xs t e f m fuel l R) (hok : MailsOk xs = true) (ht : 0 ≤ t) (hf : f ≠ t) (he : e ≠ 10000) {n : Nat} (hn : xs.length ≤ n) (hno : noneTo (hitB xs t e f m) xs n) : False := by
  obtain ⟨f1, f2⟩ := inB_iff.1 h.f1
  obtain ⟨m1, m2⟩ := inB_iff.1 h.m1
  obtain ⟨x, hx, hp⟩ := times_next hok f1 m1 m2 ht hf (by rw [h.tm]; exact he)
  rw [h.tm] at hp
  have := hno x (by rw [List.take_of_length_le hn]; exact hx)
  rw [this] at hp; cases hp
theorem negT_eq {v e : Int} (h0 : 0 ≤ e) (he : e ≠ 10000) : (negT v == e) = (v == e) := by
  unfold negT
  split
  · rw [Bool.eq_iff_iff]; simp; omega
  · rfl
def bestV (xs : List Mail) (f m t : Int) : List Int := if times xs f m t.toNat = 10000 then [] else best xs t (times xs f m t.toNat) 10000 f m
def bestR (xs : List Mail) (f m t : Int) : List Int := if askE xs f m t then bestV xs f m t else []
theorem bestV_len {xs : List Mail} {f m t : Int} : (bestV xs f m t).length ≤ 10000 := by
  unfold bestV
  split
  · simp
  · exact best_len _ _ _ _ _ _
theorem bestR_len {xs : List Mail} {f m t : Int} : (bestR xs f m t).length ≤ 10000 := by
  unfold bestR
  split
  · exact bestV_len
  · simp

set_option maxRecDepth 100000 in
set_option maxHeartbeats 2000000 in
theorem bestRoute_any (A : Option Addr) (n c : Nat) (xs : List Mail) (f m t : Int) (w : World) (h : MailL w A n xs) (hok : MailsOk xs = true) (hf : inB f 0 9 = true) (hm : inB m 0 9999 = true) (ht : inB t 0 9 = true) :
    Calls Try.prog 26 #[.slice A n c, .int .i64 f, .int .i64 m, .int .i64 t] w (RowPost 3 1 (ints (bestV xs f m t)) (!(decide (times xs f m t.toNat = 10000))) w) := by
  obtain ⟨t1, t2⟩ := inB_iff.1 ht
  obtain ⟨m1, m2⟩ := inB_iff.1 hm
  obtain ⟨t, rfl⟩ : ∃ g : Nat, t = g := ⟨t.toNat, by omega⟩
  have ht10 : t < 10 := by omega
  have HOK := Lib.hid hok
  have HF := Lib.hid hf
  have HM := Lib.hid hm
  have HG := Lib.hid (MailsOk_good hok)
  have hbd := times_bd (f := f) HG.out m1 m2 t
  clear hok hf hm ht
  obtain ⟨E, hE⟩ : ∃ E, times xs f m t = E := ⟨_, rfl⟩
  have hE2 : times xs f m (t : Int).toNat = E := by simpa using hE
  rw [hE] at hbd
  by_cases he : E = 10000
  · have hn := Lib.hid (show negF (times xs f m) t = -1 by unfold negF negT; rw [hE, if_pos he])
    rw [show bestV xs f m t = [] by unfold bestV; rw [if_pos (hE2.trans he)], show (!(decide (times xs f m (t : Int).toNat = 10000))) = false by simp [hE, he]]
    clear hE he hE2
    go_enter Try.func26, Try.ntmps26
    go_wp2_with (go_at_call 29; refine (earliest_any _ _ _ xs _ _ _ h HOK.out HF.out HM.out).mono ?_; rintro e we ⟨ge, hge, rfl, oe, he2⟩; have ce := row_cell oe ht10; rw [hn.out] at ce)
    go_ret2
    exact ⟨none, 0, 0, rfl, own_nil _ _ _ _, he2⟩
  · have hn := Lib.hid (show negF (times xs f m) t = E by unfold negF negT; rw [hE, if_neg he])
    rw [show bestV xs f m t = best xs t E 10000 f m by unfold bestV; rw [if_neg (fun e => he (hE2.symm.trans e)), hE2], show (!(decide (times xs f m (t : Int).toNat = 10000))) = true by simp [hE, he]]
    have hst := Lib.hid (OnWay.start (t := (t : Int)) HF.out HM.out hE2)
    generalize best xs t E 10000 f m = R at *
    have HE := Lib.hid he
    clear hE he hE2
    have hsm := h.small
    go_enter Try.func26, Try.ntmps26
    go_wp2_with (go_at_call 29; refine (earliest_any _ _ _ xs _ _ _ h HOK.out HF.out HM.out).mono ?_; rintro e we ⟨ge, hge, rfl, oe, he2⟩; have ce := row_cell oe ht10; rw [hn.out] at ce)
    clear ce oe
    go_loopw [1, 2, 11] (fun a b o wr => ∃ (f m : Int) (fuel : Nat) (l : List Int) (O : Option Addr) (s oc : Nat), a = .int .i64 f ∧ b = .int .i64 m ∧ o = .slice O s oc ∧ OnWay xs t E f m fuel l R ∧ s = l.length ∧ wr.ownsRow w.heap.size 3 1 (.slice O s oc) s (ints l) ∧ Ext w wr) (fun _ b _ _ => (10000 - intOf b).toNat)
    case atStart => exact ⟨f, m, 10000, [], none, 0, 0, rfl, rfl, rfl, hst.out, rfl, own_nil _ _ _ _, he2⟩
    case round =>
      obtain ⟨f', m', fuel, l, O, s, oc, rfl, rfl, rfl, hw, hs, ho, heo⟩ := hrel
      have HW := Lib.hid hw
      have HO := Lib.hid ho
      have HSL := Lib.hid hs
      clear hw ho hs hst
      by_cases hft : f' = t
      · have hs := HSL.out
        have hR := Lib.hid (HW.out.stop hft)
        clear HSL
        have hd : (f' != (t : Int)) = false := by simpa using hft
        have hd2 : decide (f' = (t : Int)) = true := by simpa using hft
        clear hft hs
        go_wp2
        go_ret2
        exact ⟨O, s, oc, rfl, by rw [hR.out]; exact HO.out, heo⟩
      · have HFT := Lib.hid hft
        have hd : (f' != (t : Int)) = true := by simpa using hft
        have hd2 : decide (f' = (t : Int)) = false := by simpa using hft
        clear hft
        go_wp2
        go_loopw [1, 2, 11, 28] (fun a b o i wi => ∃ k : Nat, a = .int .i64 f' ∧ b = .int .i64 m' ∧ o = .slice O s oc ∧ k ≤ n ∧ i = .int .i64 k ∧ noneTo (hitB xs t E f' m') xs k ∧ Ext wr wi) (fun _ _ _ i _ => n - (intOf i).toNat)
        case atStart => exact ⟨0, rfl, rfl, rfl, Nat.zero_le _, rfl, noneTo_zero _ _, Ext.refl _⟩
        case round =>
          obtain ⟨k, rfl, rfl, rfl, hk, rfl, hno, hei⟩ := hrel
          have HN := Lib.hid hno
          clear hno
          by_cases hlt : k < n
          · obtain ⟨b, off, x, rfl, hb, hx, q0, q1, q2, q3⟩ := (h.ext (heo.trans hei)).at_ hlt
            have HX := Lib.hid (good_all (HG.out x (List.mem_of_getElem? hx.out)))
            have P1 := Lib.hid (show inB x.To 0 9 = true from inB_iff.2 HX.out.2.1)
            have P2 := Lib.hid (show inB x.Arrive 0 9999 = true from inB_iff.2 HX.out.2.2.2.1)
            have hNE := Lib.hid (negT_eq (v := times xs x.To x.Arrive t) (show 0 ≤ E by omega) HE.out)
            rcases chain3 (x.From == f') (decide (m' ≤ x.Leave)) (times xs x.To x.Arrive t == E) with k1 | ⟨k1, k2⟩ | ⟨k1, k2, k3⟩ | ⟨k1, k2, k3⟩
            · have hs := Lib.hid (noneTo_succ HN.out hx.out (show hitB xs t E f' m' x = false by unfold hitB; rw [k1]; rfl))
              have kd : decide (x.From = f') = false := by simpa using k1
              go_wp2
              go_roundw
              case rel => exact ⟨k + 1, rfl, rfl, rfl, by omega, by go_num, hs.out, hei.alloc _⟩
              case measure => simp [intOf]; omega
            · have hs := Lib.hid (noneTo_succ HN.out hx.out (show hitB xs t E f' m' x = false by unfold hitB; rw [k1, k2]; rfl))
              have kd : decide (x.From = f') = true := by simpa using k1
              go_wp2
              go_roundw
              case rel => exact ⟨k + 1, rfl, rfl, rfl, by omega, by go_num, hs.out, hei.alloc _⟩
              case measure => simp [intOf]; omega
            · have hs := Lib.hid (noneTo_succ HN.out hx.out (show hitB xs t E f' m' x = false by unfold hitB; rw [k1, k2]; simp only [Int.toNat_natCast]; rw [k3]; rfl))
              have kd : decide (x.From = f') = true := by simpa using k1
              have k4 := hNE.out.trans k3
              have K5 := Lib.hid (show decide (negT (times xs x.To x.Arrive t) = E) = false by simpa using k4)
              have K4 := Lib.hid k4
              clear k3 k4
              go_wp2_with (go_at_call 29; refine (earliest_any _ _ _ xs _ _ _ (h.ext ((heo.trans hei).alloc _)) HOK.out P1.out P2.out).mono ?_; rintro e we ⟨ge, hge, rfl, oe, he2⟩; have ce := row_cell oe ht10; unfold negF at ce; have hc2 := he2.cells; have k4 := K4.out; have k5 := K5.out)
              go_roundw
              case rel => exact ⟨k + 1, rfl, rfl, rfl, by omega, by go_num, hs.out, (hei.alloc _).trans he2⟩
              case measure => simp [intOf]; omega
            · have hp : hitB xs t E f' m' x = true := by unfold hitB; rw [k1, k2]; simp only [Int.toNat_natCast]; rw [k3]; rfl
              obtain ⟨fuel', hfu, hlat, hw2⟩ := HW.out.step HOK.out HFT.out HN.out hx.out hp
              have HW2 := Lib.hid hw2
              have hsl := HW.out.le
              have hsl2 := HSL.out
              have hsm2 : s ≤ 10000 := by omega
              clear hsl hsl2 hw2 hp hfu
              have kd : decide (x.From = f') = true := by simpa using k1
              have k4 := hNE.out.trans k3
              have K5 := Lib.hid (show decide (negT (times xs x.To x.Arrive t) = E) = true by simpa using k4)
              have K4 := Lib.hid k4
              clear k3 k4
              go_wp2_with (first | (go_at_call 29; refine (earliest_any _ _ _ xs _ _ _ (h.ext ((heo.trans hei).alloc _)) HOK.out P1.out P2.out).mono ?_; rintro e we ⟨ge, hge, rfl, oe, he2⟩; have ce := row_cell oe ht10; unfold negF at ce; have hc2 := he2.cells; have k4 := K4.out; have k5 := K5.out; have he3 := Lib.hid ((hei.alloc (.cells #[.int .i64 x.Leave, .int .i64 x.From, .int .i64 x.To, .int .i64 x.Arrive] 44)).trans he2); have hz2 : wr.heap.size < we.heap.size := (by have h := he2.size; simp only [World.size_alloc] at h; omega)) | (at_builtin; refine app_int rfl (.tmp 56) (.tmp 58) rfl w.heap.size s oc we.heap.size O l (k : Int) rfl rfl ((he3.out.own HO.out).alloc _) (new_cell _ _ _ 0 _ rfl) (by omega) (by have := (heo.trans he3.out).size; simp only [World.size_alloc]; omega) ?_; intro O' oc' w' hown' hgrow hoff'))
              have hxo : Off O wr.heap.size := Off.own HO.out hei.size
              have hx2 := grown_cell hgrow hxo ((he2.alloc _).cell1 (new_cell _ _ _ 2 _ rfl))
              have hx3 := grown_cell hgrow hxo ((he2.alloc _).cell1 (new_cell _ _ _ 3 _ rfl))
              have hE4 := Lib.hid (((heo.trans he3.out).alloc (.cells #[.int .i64 (k : Int)] 3)).grown hgrow (fun k hk => (HO.out.lt k hk).1))
              have HOW := Lib.hid hown'
              have hz5 : wr.heap.size < w'.heap.size := World.block_lt_of_cell? w' _ hx2
              clear hown' hgrow hoff'
              (refine wp_region_ext_lit (by kernel_rfl) (by kernel_rfl) ?_; (repeat (go_big_quiet_step ((fail)))); refine wpQuiet_nil ?_; rintro wq ⟨⟨_, heq⟩, rfl⟩; (try dsimp only))
              go_wp2
              go_roundw
              case rel => exact ⟨x.To, x.Arrive, fuel', l ++ [(k : Int)], O', s + 1, oc', rfl, rfl, rfl, HW2.out, by have := HSL.out; simp; omega, heq.own HOW.out, hE4.out.trans heq⟩
              case measure => simp [intOf]; have := HX.out; omega
          · obtain rfl : k = n := by omega
            exact (HW.out.goes HOK.out (by omega) HFT.out HE.out (Nat.le_of_eq h.len) HN.out).elim

set_option maxRecDepth 100000 in
set_option maxHeartbeats 1000000 in
theorem BestRouteI_any (A : Option Addr) (n c : Nat) (xs : List Mail) (f m t : Int) (w : World) (h : MailL w A n xs) :
    Calls Try.prog 6 #[.slice A n c, .int .i64 f, .int .i64 m, .int .i64 t] w (RowPost 3 1 (ints (bestR xs f m t)) (hasE xs f m t) w) := by
  rcases chain4 (MailsOk xs) (inB f 0 9) (inB m 0 9999) (inB t 0 9) with h1 | ⟨h1, h2⟩ | ⟨h1, h2, h3⟩ | ⟨h1, h2, h3, h4⟩ | ⟨h1, h2, h3, h4⟩
  iterate 4
    · have ha : askE xs f m t = false := by simp [askE, askM, *]
      have hr : bestR xs f m t = [] := by simp [bestR, ha]
      rw [(earl_no ha).2, hr]
      clear ha hr
      go_enter Try.func6, Try.ntmps6
      go_wp2_with (first | (go_at_call 23; refine (isTimetable_any _ _ _ xs _ h).mono ?_; rintro e wa ⟨rfl, he1⟩; have hc1 := he1.cells) | (go_at_call 24; refine (isOffice_any _ _).mono ?_; rintro e w' ⟨rfl, rfl⟩) | (go_at_call 25; refine (isMinute_any _ _).mono ?_; rintro e w' ⟨rfl, rfl⟩))
      go_ret2
      exact ⟨none, 0, 0, rfl, own_nil _ _ _ _, he1⟩
  · have ha : askE xs f m t = true := by simp [askE, askM, *]
    have hr : bestR xs f m t = bestV xs f m t := by simp [bestR, ha]
    have hq : hasE xs f m t = (!(decide (times xs f m t.toNat = 10000))) := by simp [hasE, ha]
    rw [hq, hr]
    clear ha hr hq
    have C := Lib.hid (fun wx (hx : MailL wx A n xs) => bestRoute_any A n c xs f m t wx hx h1 h2 h3 h4)
    go_enter Try.func6, Try.ntmps6
    go_wp2_with (first | (go_at_call 23; refine (isTimetable_any _ _ _ xs _ h).mono ?_; rintro e wa ⟨rfl, he1⟩; have hc1 := he1.cells) | (go_at_call 24; refine (isOffice_any _ _).mono ?_; rintro e w' ⟨rfl, rfl⟩) | (go_at_call 25; refine (isMinute_any _ _).mono ?_; rintro e w' ⟨rfl, rfl⟩) | (go_at_call 26; refine (C.out _ (h.ext he1)).mono ?_; rintro e we ⟨B, s, oc, rfl, ho, he2⟩))
    go_ret2
    exact ⟨B, s, oc, rfl, own_low ho he1.size, he1.trans he2⟩

set_option maxRecDepth 100000 in
set_option maxHeartbeats 2000000 in
theorem BestRouteS_any (A : Option Addr) (n c : Nat) (xs : List Mail) (f m t : Int) (w : World) (h : MailL w A n xs) :
    Calls Try.prog 7 #[.slice A n c, .int .i64 f, .int .i64 m, .int .i64 t] w (RowPost 3 1 (ints (bestR xs f m t)) (hasE xs f m t) w) := by
  have C := Lib.hid (fun wx (hx : MailL wx A n xs) => EarliestAtS_any A n c xs f m t wx hx)
  cases hh : hasE xs f m t
  · have hr : bestR xs f m t = [] := by
      unfold bestR
      split
      · rename_i ha
        simp [hasE, ha] at hh
        unfold bestV
        rw [if_pos hh]
      · rfl
    rw [hr]
    rw [hh] at C
    clear hr hh
    go_enter Try.func7, Try.ntmps7
    go_wp2_with (go_at_call 12; refine (C.out _ (h.ext ((Ext.refl _).alloc _))).mono ?_; rintro e we ⟨rfl, he1⟩)
    go_ret2
    exact ⟨some ⟨w.heap.size, 0, none⟩, 0, 0, rfl, he1.own (own_empty w _ _ _ (Nat.le_refl _)), ((Ext.refl _).alloc _).trans he1⟩
  · have hh2 := hh
    simp only [hasE, Bool.and_eq_true, Bool.not_eq_true', decide_eq_false_iff_not] at hh2
    obtain ⟨ha, hne⟩ := hh2
    obtain ⟨es, _⟩ := earl_some ha hne
    have ha2 := ha
    simp only [askE, askM, Bool.and_eq_true] at ha2
    obtain ⟨⟨h1, h2, h3⟩, h4⟩ := ha2
    obtain ⟨t1, t2⟩ := inB_iff.1 h4
    obtain ⟨m1, m2⟩ := inB_iff.1 h3
    have HOK := Lib.hid h1
    have HF := Lib.hid h2
    have HM := Lib.hid h3
    have HG := Lib.hid (MailsOk_good h1)
    obtain ⟨t, rfl⟩ : ∃ g : Nat, t = g := ⟨t.toNat, by omega⟩
    have ht10 : t < 10 := by omega
    have hbd := times_bd (f := f) HG.out m1 m2 t
    obtain ⟨E, hE⟩ : ∃ E, times xs f m t = E := ⟨_, rfl⟩
    have hE2 : times xs f m (t : Int).toNat = E := by simpa using hE
    rw [hE2] at es hne
    rw [hE] at hbd
    rw [hh, es] at C
    rw [show bestR xs f m t = best xs t E 10000 f m by unfold bestR bestV; rw [if_pos ha, if_neg (fun e => hne (hE2.symm.trans e)), hE2]]
    have hst := Lib.hid (OnWay.start (t := (t : Int)) HF.out HM.out hE2)
    generalize best xs t E 10000 f m = R at *
    have HE := Lib.hid hne
    clear h1 h2 h3 h4 ha hE hE2 hne es hh
    have hsm := h.small
    go_enter Try.func7, Try.ntmps7
    go_wp2_with (go_at_call 12; refine (C.out _ (h.ext ((Ext.refl _).alloc _))).mono ?_; rintro e we ⟨rfl, he1⟩)
    have hE0 := ((Ext.refl w).alloc (.cells #[] 3)).trans he1
    have hO := Lib.hid (he1.own (own_empty w w.heap.size 3 1 (Nat.le_refl _)))
    go_loopw [1, 2, 10] (fun a b o wr => ∃ (f m : Int) (fuel : Nat) (l : List Int) (O : Option Addr) (s oc : Nat), a = .int .i64 f ∧ b = .int .i64 m ∧ o = .slice O s oc ∧ OnWay xs t E f m fuel l R ∧ s = l.length ∧ wr.ownsRow w.heap.size 3 1 (.slice O s oc) s (ints l) ∧ Ext w wr) (fun _ b _ _ => (10000 - intOf b).toNat)
    case atStart => exact ⟨f, m, 10000, [], some ⟨w.heap.size, 0, none⟩, 0, 0, rfl, rfl, rfl, hst.out, rfl, hO.out, hE0⟩
    case round =>
      obtain ⟨f', m', fuel, l, O, s, oc, rfl, rfl, rfl, hw, hs, ho, heo⟩ := hrel
      have HW := Lib.hid hw
      have HO := Lib.hid ho
      have HSL := Lib.hid hs
      clear hw ho hs hst
      by_cases hft : f' = t
      · have hs := HSL.out
        have hR := Lib.hid (HW.out.stop hft)
        clear HSL
        have hd : (f' != (t : Int)) = false := by simpa using hft
        have hd2 : decide (f' = (t : Int)) = true := by simpa using hft
        have hme := HW.out.end_ HOK.out hft
        have hd3 : (m' != E) = false := by simpa using hme
        have hd4 : decide (m' = E) = true := by simpa using hme
        clear hft hs hme
        go_wp2
        go_ret2
        exact ⟨O, s, oc, rfl, by rw [hR.out]; exact HO.out, heo⟩
      · have HFT := Lib.hid hft
        have hd : (f' != (t : Int)) = true := by simpa using hft
        have hd2 : decide (f' = (t : Int)) = false := by simpa using hft
        clear hft
        go_wp2
        go_loopw [1, 2, 10, 13] (fun a b o i wi => ∃ k : Nat, a = .int .i64 f' ∧ b = .int .i64 m' ∧ o = .slice O s oc ∧ k ≤ n ∧ i = .int .i64 k ∧ noneTo (hitB xs t E f' m') xs k ∧ Ext wr wi) (fun _ _ _ i _ => n - (intOf i).toNat)
        case atStart => exact ⟨0, rfl, rfl, rfl, Nat.zero_le _, rfl, noneTo_zero _ _, Ext.refl _⟩
        case round =>
          obtain ⟨k, rfl, rfl, rfl, hk, rfl, hno, hei⟩ := hrel
          have HN := Lib.hid hno
          clear hno
          by_cases hlt : k < n
          · obtain ⟨b, off, x, rfl, hb, hx, q0, q1, q2, q3⟩ := (h.ext (heo.trans hei)).at_ hlt
            have HX := Lib.hid (good_all (HG.out x (List.mem_of_getElem? hx.out)))
            have P1 := Lib.hid (show inB x.To 0 9 = true from inB_iff.2 HX.out.2.1)
            have P2 := Lib.hid (show inB x.Arrive 0 9999 = true from inB_iff.2 HX.out.2.2.2.1)
            rcases chain3 (x.From == f') (decide (m' ≤ x.Leave)) (times xs x.To x.Arrive t == E) with k1 | ⟨k1, k2⟩ | ⟨k1, k2, k3⟩ | ⟨k1, k2, k3⟩
            · have hs := Lib.hid (noneTo_succ HN.out hx.out (show hitB xs t E f' m' x = false by unfold hitB; rw [k1]; rfl))
              have kd : decide (x.From = f') = false := by simpa using k1
              go_wp2
              go_roundw
              case rel => exact ⟨k + 1, rfl, rfl, rfl, by omega, by go_num, hs.out, hei.alloc _⟩
              case measure => simp [intOf]; omega
            · have hs := Lib.hid (noneTo_succ HN.out hx.out (show hitB xs t E f' m' x = false by unfold hitB; rw [k1, k2]; rfl))
              have kd : decide (x.From = f') = true := by simpa using k1
              go_wp2
              go_roundw
              case rel => exact ⟨k + 1, rfl, rfl, rfl, by omega, by go_num, hs.out, hei.alloc _⟩
              case measure => simp [intOf]; omega
            · have hs := Lib.hid (noneTo_succ HN.out hx.out (show hitB xs t E f' m' x = false by unfold hitB; rw [k1, k2]; simp only [Int.toNat_natCast]; rw [k3]; rfl))
              have kd : decide (x.From = f') = true := by simpa using k1
              have k4 := k3
              have K5 := Lib.hid (show decide (times xs x.To x.Arrive t = E) = false by simpa using k4)
              have K4 := Lib.hid k4
              clear k3 k4
              go_wp2_with (go_at_call 27; refine (l9Times_any _ _ _ xs _ _ _ (h.ext ((heo.trans hei).alloc _)) HOK.out P1.out P2.out).mono ?_; rintro e we ⟨ge, hge, rfl, oe, he2⟩; have ce := row_cell oe ht10; have hc2 := he2.cells; have k4 := K4.out; have k5 := K5.out)
              go_roundw
              case rel => exact ⟨k + 1, rfl, rfl, rfl, by omega, by go_num, hs.out, (hei.alloc _).trans he2⟩
              case measure => simp [intOf]; omega
            · have hp : hitB xs t E f' m' x = true := by unfold hitB; rw [k1, k2]; simp only [Int.toNat_natCast]; rw [k3]; rfl
              obtain ⟨fuel', hfu, hlat, hw2⟩ := HW.out.step HOK.out HFT.out HN.out hx.out hp
              have HW2 := Lib.hid hw2
              have hsl := HW.out.le
              have hsl2 := HSL.out
              have hsm2 : s ≤ 10000 := by omega
              clear hsl hsl2 hw2 hp hfu
              have kd : decide (x.From = f') = true := by simpa using k1
              have k4 := k3
              have K5 := Lib.hid (show decide (times xs x.To x.Arrive t = E) = true by simpa using k4)
              have K4 := Lib.hid k4
              clear k3 k4
              go_wp2_with (first | (go_at_call 27; refine (l9Times_any _ _ _ xs _ _ _ (h.ext ((heo.trans hei).alloc _)) HOK.out P1.out P2.out).mono ?_; rintro e we ⟨ge, hge, rfl, oe, he2⟩; have ce := row_cell oe ht10; have hc2 := he2.cells; have k4 := K4.out; have k5 := K5.out; have he3 := Lib.hid ((hei.alloc (.cells #[.int .i64 x.Leave, .int .i64 x.From, .int .i64 x.To, .int .i64 x.Arrive] 44)).trans he2); have hz2 : wr.heap.size < we.heap.size := (by have h := he2.size; simp only [World.size_alloc] at h; omega)) | (at_builtin; refine app_int rfl (.tmp 68) (.tmp 70) rfl w.heap.size s oc we.heap.size O l (k : Int) rfl rfl ((he3.out.own HO.out).alloc _) (new_cell _ _ _ 0 _ rfl) (by omega) (by have := (heo.trans he3.out).size; simp only [World.size_alloc]; omega) ?_; intro O' oc' w' hown' hgrow hoff'; have hxo : Off O wr.heap.size := Off.own HO.out hei.size; have hx2 := grown_cell hgrow hxo ((he2.alloc _).cell1 (new_cell _ _ _ 2 _ rfl)); have hx3 := grown_cell hgrow hxo ((he2.alloc _).cell1 (new_cell _ _ _ 3 _ rfl)); have hE4 := Lib.hid (((heo.trans he3.out).alloc (.cells #[.int .i64 (k : Int)] 3)).grown hgrow (fun k hk => (HO.out.lt k hk).1)); have HOW := Lib.hid hown'; clear hown' hgrow hoff'))
              go_roundw
              case rel => exact ⟨x.To, x.Arrive, fuel', l ++ [(k : Int)], O', s + 1, oc', rfl, rfl, rfl, HW2.out, by have := HSL.out; simp; omega, HOW.out, hE4.out⟩
              case measure => simp [intOf]; have := HX.out; omega
          · obtain rfl : k = n := by omega
            exact (HW.out.goes HOK.out (by omega) HFT.out HE.out (Nat.le_of_eq h.len) HN.out).elim
end Go.Proofs.Ytmgpdenofkloeaa
