/- FaultCounts. -/
import Derived.Test.YtopjomkjdmcljaaCoverF
namespace Go.Proofs.Ytopjomkjdmcljaa
open Go.RowKit
set_option linter.unusedVariables false
set_option linter.unusedSimpArgs false
attribute [local go_sem] ExtOf.cell

/-- Six counts. -/
def clist (F : Nat → Int) : List Int := (List.range 6).map F
theorem clist_len (F : Nat → Int) : (clist F).length = 6 := by simp [clist]
theorem clist_get (F : Nat → Int) {k : Nat} (h : k < 6) : (clist F)[k]? = some (F k) := by simp [clist, h]
theorem clist_set (F : Nat → Int) (k : Nat) (v : Int) : (clist F).set k v = clist (upd F k v) := by
  apply List.ext_getElem?
  intro i
  rw [List.getElem?_set]
  by_cases hi : i < 6
  · rw [clist_get _ hi, clist_get _ hi]
    unfold upd
    by_cases e : k = i
    · subst e
      rw [if_pos rfl, if_pos (by simp [clist_len]; omega), if_pos rfl]
    · rw [if_neg e, if_neg (fun h => e h.symm)]
  · have h1 : (clist F)[i]? = none := List.getElem?_eq_none (by rw [clist_len]; omega)
    have h2 : (clist (upd F k v))[i]? = none := List.getElem?_eq_none (by rw [clist_len]; omega)
    rw [h1, h2]
    split
    · split
      · rename_i h; simp [clist_len] at h; omega
      · rfl
    · rfl
def csix (F : Nat → Int) : List Value := [.int .i64 (F 0), .int .i64 (F 1), .int .i64 (F 2), .int .i64 (F 3), .int .i64 (F 4), .int .i64 (F 5)]
theorem ints_clist (F : Nat → Int) : ints (clist F) = csix F := rfl
theorem crow_set (F : Nat → Int) (k : Nat) (v : Int) : (ints (clist F)).set k (.int .i64 v) = ints (clist (upd F k v)) := by rw [ints_set, clist_set]
def cntStep (rs : List Rate) (ms : List Mail) (F : Nat → Int) (x : Cover) : Nat → Int := upd F (faultV rs ms x).toNat (F (faultV rs ms x).toNat + 1)
/-- How many of the first k covers have each fault. -/
def fcnt (rs : List Rate) (ms : List Mail) (xs : List Cover) : Nat → Nat → Int
  | 0 => fun _ => 0
  | k + 1 => ((xs[k]?).map (cntStep rs ms (fcnt rs ms xs k))).getD (fcnt rs ms xs k)
theorem fcnt_bd (rs : List Rate) (ms : List Mail) (xs : List Cover) : ∀ (k j : Nat), 0 ≤ fcnt rs ms xs k j ∧ fcnt rs ms xs k j ≤ k
  | 0, j => by simp [fcnt]
  | k + 1, j => by
    have ih := fcnt_bd rs ms xs k
    rw [fcnt]
    cases hx : xs[k]? with
    | none => have := ih j; simp; omega
    | some x =>
      simp only [Option.map_some, Option.getD_some]
      unfold cntStep upd
      split
      · have := ih (faultV rs ms x).toNat; omega
      · have := ih j; omega
theorem fcnt_succ {rs : List Rate} {ms : List Mail} {xs : List Cover} {k j : Nat} {x : Cover} (h : xs[k]? = some x) (hj : faultV rs ms x = j) : fcnt rs ms xs (k + 1) = upd (fcnt rs ms xs k) j (fcnt rs ms xs k j + 1) := by
  rw [fcnt, h]
  simp only [Option.map_some, Option.getD_some]
  unfold cntStep
  rw [hj, Int.toNat_natCast]
def countsOk (rs : List Rate) (ms : List Mail) (xs : List Cover) : Bool := RatesOk rs && (MailsOk ms && CoversOk xs)
def countsF (rs : List Rate) (ms : List Mail) (xs : List Cover) : Nat → Int := if countsOk rs ms xs then fcnt rs ms xs xs.length else fun _ => 0
theorem own_six (w : World) (T : TypeId) (F : Nat → Int) : (w.alloc (.cells (csix F).toArray T)).ownsRow w.heap.size T 6 (.slice (some ⟨w.heap.size, 0, none⟩) 1 1) 1 (ints (clist F)) :=
  ⟨by simp [ints, clist_len], .inr ⟨w.heap.size, 1, (csix F).toArray, rfl, Nat.le_refl _, heap_alloc_new w _, Nat.le_refl _, by unfold maxLen; omega, by simp [csix], by rw [ints_clist]; simp [csix]⟩⟩
theorem own_zero (w : World) (T : TypeId) : (w.alloc (.cells #[.int .i64 0, .int .i64 0, .int .i64 0, .int .i64 0, .int .i64 0, .int .i64 0] T)).ownsRow w.heap.size T 6 (.slice (some ⟨w.heap.size, 0, none⟩) 1 1) 1 (ints (clist fun _ => 0)) := own_six w T (fun _ => 0)
theorem set_six (G F : Nat → Int) : setL (ints (clist G)) 0 (csix F) = ints (clist F) := rfl
theorem size6 : (Try.prog.info? 61).map (·.size) = some 6 := by kernel_rfl
theorem six_at {w : World} {base T g c : Nat} {F : Nat → Int} (h : w.ownsRow base T 6 (.slice (some ⟨g, 0, none⟩) 1 c) 1 (ints (clist F))) {k : Nat} (hk : k < 6) : w.cell? ⟨g, k, none⟩ = some (.int .i64 (F k)) := by
  rw [h.cellAt k (by omega)]
  exact ints_get (clist_get F hk)

set_option maxRecDepth 100000 in
set_option maxHeartbeats 2000000 in
theorem FaultCountsI_any (A : Option Addr) (n c : Nat) (rs : List Rate) (B : Option Addr) (n2 c2 : Nat) (ms : List Mail) (D : Option Addr) (n3 c3 : Nat) (xs : List Cover) (w : World) (hr : RateL w A n rs) (hm : MailL w B n2 ms) (hx : CoverL w D n3 xs) :
    Calls Try.prog 40 #[.slice A n c, .slice B n2 c2, .slice D n3 c3] w fun e w' => e = .returned (.tuple #[.agg (csix (countsF rs ms xs)).toArray, .bool (countsOk rs ms xs)]) ∧ Ext w w' := by
  have HO0 := Lib.hid (own_zero w 61)
  rcases chain3 (RatesOk rs) (MailsOk ms) (CoversOk xs) with h1 | ⟨h1, h2⟩ | ⟨h1, h2, h3⟩ | ⟨h1, h2, h3⟩
  iterate 3
    · have hok : countsOk rs ms xs = false := by simp [countsOk, *]
      rw [show countsF rs ms xs = fun _ => 0 by simp [countsF, hok], hok]
      clear hok
      go_enter Try.func40, Try.ntmps40
      go_wp2_with (first | (go_at_call 53; refine (areRates_any _ _ _ rs _ (hr.ext (by repeat (first | exact Ext.refl _ | assumption | refine Ext.trans ?_ (by assumption) | refine Ext.drew ?_ | refine Ext.drewN ?_ _ | refine Ext.alloc ?_ _)))).mono ?_; rintro e wa ⟨rfl, he1⟩) | (go_at_call 59; refine (isTimetable_any _ _ _ ms _ (hm.ext (by repeat (first | exact Ext.refl _ | assumption | refine Ext.trans ?_ (by assumption) | refine Ext.drew ?_ | refine Ext.drewN ?_ _ | refine Ext.alloc ?_ _)))).mono ?_; rintro e wb ⟨rfl, he2⟩) | (go_at_call 47; refine (areCovers_any _ _ _ xs _ (hx.ext (by repeat (first | exact Ext.refl _ | assumption | refine Ext.trans ?_ (by assumption) | refine Ext.drew ?_ | refine Ext.drewN ?_ _ | refine Ext.alloc ?_ _)))).mono ?_; rintro e wc ⟨rfl, he3⟩) | (refine wpList_store_own rfl 61 (.tmp 6) (.tmp 24) rfl w.heap.size 0 (csix fun _ => 0) rfl rfl w.heap.size 61 6 1 1 (ints (clist fun _ => 0)) (Ext.own (by repeat (first | exact Ext.refl _ | assumption | refine Ext.trans ?_ (by assumption) | refine Ext.drew ?_ | refine Ext.drewN ?_ _ | refine Ext.alloc ?_ _)) HO0.out) (by decide) size6 (by rfl) ?_; intro wz ho2 hg2; rw [set_six] at ho2))
      have z0 := six_at ho2 (show 0 < 6 by decide)
      have z1 := six_at ho2 (show 1 < 6 by decide)
      have z2 := six_at ho2 (show 2 < 6 by decide)
      have z3 := six_at ho2 (show 3 < 6 by decide)
      have z4 := six_at ho2 (show 4 < 6 by decide)
      have z5 := six_at ho2 (show 5 < 6 by decide)
      exact bodyPost_ret (v := .tuple #[.agg (csix fun _ => 0).toArray, .bool false]) (by simp [results, Try.results40, go_sem, z0, z1, z2, z3, z4, z5, csix]) rfl ⟨rfl, (Ext.row (a := w) (by repeat (first | exact Ext.refl _ | assumption | refine Ext.trans ?_ (by assumption) | refine Ext.drew ?_ | refine Ext.drewN ?_ _ | refine Ext.alloc ?_ _)) hg2 (Nat.le_refl _))⟩
  · have hok : countsOk rs ms xs = true := by simp [countsOk, *]
    rw [show countsF rs ms xs = fcnt rs ms xs xs.length by simp [countsF, hok], hok]
    clear hok
    have hlen := CoversOk_len h3
    have HLN := Lib.hid hx.len
    have hn10 : n3 ≤ 10 := by have := HLN.out; omega
    have HG := Lib.hid (CoversOk_good h3)
    have HB := Lib.hid (fcnt_bd rs ms xs)
    have C := Lib.hid (fun (x : Cover) (hgx : cvGood x = true) wx (hr : RateL wx A n rs) (hm : MailL wx B n2 ms) => faultOf_any A n c rs B n2 c2 ms x wx hr hm h1 h2 hgx)
    clear hlen
    go_enter Try.func40, Try.ntmps40
    go_wp2_with (first | (go_at_call 53; refine (areRates_any _ _ _ rs _ (hr.ext (by repeat (first | exact Ext.refl _ | assumption | refine Ext.trans ?_ (by assumption) | refine Ext.drew ?_ | refine Ext.drewN ?_ _ | refine Ext.alloc ?_ _)))).mono ?_; rintro e wa ⟨rfl, he1⟩) | (go_at_call 59; refine (isTimetable_any _ _ _ ms _ (hm.ext (by repeat (first | exact Ext.refl _ | assumption | refine Ext.trans ?_ (by assumption) | refine Ext.drew ?_ | refine Ext.drewN ?_ _ | refine Ext.alloc ?_ _)))).mono ?_; rintro e wb ⟨rfl, he2⟩) | (go_at_call 47; refine (areCovers_any _ _ _ xs _ (hx.ext (by repeat (first | exact Ext.refl _ | assumption | refine Ext.trans ?_ (by assumption) | refine Ext.drew ?_ | refine Ext.drewN ?_ _ | refine Ext.alloc ?_ _)))).mono ?_; rintro e wc ⟨rfl, he3⟩))
    have hE0 : Ext (w.alloc (.cells #[.int .i64 0, .int .i64 0, .int .i64 0, .int .i64 0, .int .i64 0, .int .i64 0] 61)) wc := (by repeat (first | exact Ext.refl _ | assumption | refine Ext.trans ?_ (by assumption) | refine Ext.drew ?_ | refine Ext.drewN ?_ _ | refine Ext.alloc ?_ _))
    have HR0 := Lib.hid (hE0.own HO0.out)
    have HO1 := Lib.hid (own_zero wc 61)
    have hW : Ext w wc := (by repeat (first | exact Ext.refl _ | assumption | refine Ext.trans ?_ (by assumption) | refine Ext.drew ?_ | refine Ext.drewN ?_ _ | refine Ext.alloc ?_ _))
    go_loopw [28] (fun i wr => ∃ k : Nat, k ≤ n3 ∧ i = .int .i64 k ∧ wr.ownsRow wc.heap.size 61 6 (.slice (some ⟨wc.heap.size, 0, none⟩) 1 1) 1 (ints (clist (fcnt rs ms xs k))) ∧ Ext wc wr) (fun i _ => n3 - (intOf i).toNat)
    case atStart => exact ⟨0, Nat.zero_le _, rfl, HO1.out, (Ext.refl _).alloc _⟩
    case round =>
      obtain ⟨k, hk, rfl, ho, he⟩ := hrel
      by_cases hlt : k < n3
      · obtain ⟨b, off, x, rfl, hb, hxk, g0, g1, g2, g3, g4, g5, g6, g7, g8⟩ := (hx.ext (hW.trans he)).at_ hlt
        have hgx := Lib.hid (show cvGood x = true from HG.out x (List.mem_of_getElem? hxk.out))
        obtain ⟨f1, f2⟩ := faultV_bd rs ms x
        obtain ⟨j, hj⟩ : ∃ j : Nat, faultV rs ms x = j := ⟨(faultV rs ms x).toNat, by omega⟩
        have CX := Lib.hid (C.out x hgx.out)
        rw [hj] at CX f2
        have hj6 : j < 6 := by omega
        have hs := Lib.hid (fcnt_succ hxk.out hj)
        have hqb := HB.out k j
        generalize hq : fcnt rs ms xs k j = q at *
        have HQ := Lib.hid hq
        have hlc : wc.heap.size < wr.heap.size := (ho.lt _ rfl).2
        have HO := Lib.hid ho
        clear ho hj hq f1
        go_wp2_with (go_at_call 65; refine (CX.out _ (hr.ext (by repeat (first | exact Ext.refl _ | assumption | refine Ext.trans ?_ (by assumption) | refine Ext.drew ?_ | refine Ext.drewN ?_ _ | refine Ext.alloc ?_ _))) (hm.ext (by repeat (first | exact Ext.refl _ | assumption | refine Ext.trans ?_ (by assumption) | refine Ext.drew ?_ | refine Ext.drewN ?_ _ | refine Ext.alloc ?_ _)))).mono ?_; rintro e wd ⟨rfl, he4⟩; have OQ := Lib.hid (show wd.ownsRow wc.heap.size 61 6 (.slice (some ⟨wc.heap.size, 0, none⟩) 1 1) 1 (ints (clist (fcnt rs ms xs k))) from Ext.own (by repeat (first | exact Ext.refl _ | assumption | refine Ext.trans ?_ (by assumption) | refine Ext.drew ?_ | refine Ext.drewN ?_ _ | refine Ext.alloc ?_ _)) HO.out); have cj := six_at OQ.out hj6; rw [HQ.out] at cj; have fj := OQ.out.frozenAt j)
        go_roundw
        case rel =>
          have ho2 := (OQ.out.stored j (.int .i64 (q + 1))).1
          rw [crow_set] at ho2
          exact ⟨k + 1, by omega, by go_num, by rw [hs.out]; exact ho2, (Ext.set (a := wc) (by repeat (first | exact Ext.refl _ | assumption | refine Ext.trans ?_ (by assumption) | refine Ext.drew ?_ | refine Ext.drewN ?_ _ | refine Ext.alloc ?_ _)) (Nat.le_refl _) _)⟩
        case measure => simp [intOf]; omega
      · obtain rfl : n3 = k := by omega
        rw [← HLN.out] at ho
        obtain ⟨F, hF⟩ : ∃ F, fcnt rs ms xs xs.length = F := ⟨_, rfl⟩
        rw [hF] at ho
        have HF := Lib.hid hF
        clear hF
        have HRW := Lib.hid (he.own HR0.out)
        have z0 := six_at ho (show 0 < 6 by decide)
        have z1 := six_at ho (show 1 < 6 by decide)
        have z2 := six_at ho (show 2 < 6 by decide)
        have z3 := six_at ho (show 3 < 6 by decide)
        have z4 := six_at ho (show 4 < 6 by decide)
        have z5 := six_at ho (show 5 < 6 by decide)
        go_wp2_with (refine wpList_store_own rfl 61 (.tmp 6) (.tmp 41) rfl w.heap.size 0 (csix F) rfl rfl w.heap.size 61 6 1 1 (ints (clist fun _ => 0)) HRW.out (Nat.le_refl 6) size6 (by rfl) ?_; intro wz ho2 hg2; rw [set_six] at ho2)
        have z0 := six_at ho2 (show 0 < 6 by decide)
        have z1 := six_at ho2 (show 1 < 6 by decide)
        have z2 := six_at ho2 (show 2 < 6 by decide)
        have z3 := six_at ho2 (show 3 < 6 by decide)
        have z4 := six_at ho2 (show 4 < 6 by decide)
        have z5 := six_at ho2 (show 5 < 6 by decide)
        exact bodyPost_ret (v := .tuple #[.agg (csix F).toArray, .bool true]) (by simp [results, Try.results40, go_sem, z0, z1, z2, z3, z4, z5, csix]) rfl ⟨by rw [HF.out], (Ext.row (a := w) (hW.trans he) hg2 (Nat.le_refl _))⟩
set_option maxRecDepth 100000 in
set_option maxHeartbeats 2000000 in
theorem FaultCountsS_any (A : Option Addr) (n c : Nat) (rs : List Rate) (B : Option Addr) (n2 c2 : Nat) (ms : List Mail) (D : Option Addr) (n3 c3 : Nat) (xs : List Cover) (w : World) (hr : RateL w A n rs) (hm : MailL w B n2 ms) (hx : CoverL w D n3 xs) :
    Calls Try.prog 39 #[.slice A n c, .slice B n2 c2, .slice D n3 c3] w fun e w' => e = .returned (.tuple #[.agg (csix (countsF rs ms xs)).toArray, .bool (countsOk rs ms xs)]) ∧ Ext w w' := by
  have HO0 := Lib.hid (own_zero w 61)
  have ho1 := own_zero (w.alloc (.cells #[.int .i64 0, .int .i64 0, .int .i64 0, .int .i64 0, .int .i64 0, .int .i64 0] 61)) 61
  simp only [World.size_alloc] at ho1
  have HO1 := Lib.hid ho1
  clear ho1
  rcases chain3 (RatesOk rs) (MailsOk ms) (CoversOk xs) with h1 | ⟨h1, h2⟩ | ⟨h1, h2, h3⟩ | ⟨h1, h2, h3⟩
  iterate 3
    · have hok : countsOk rs ms xs = false := by simp [countsOk, *]
      rw [show countsF rs ms xs = fun _ => 0 by simp [countsF, hok], hok]
      clear hok
      go_enter Try.func39, Try.ntmps39
      go_wp2_with (first | (go_at_call 49; refine (l8Good_any _ _ _ rs _ (hr.ext (by repeat (first | exact Ext.refl _ | assumption | refine Ext.trans ?_ (by assumption) | refine Ext.drew ?_ | refine Ext.drewN ?_ _ | refine Ext.alloc ?_ _)))).mono ?_; rintro e wa ⟨rfl, he1⟩; have OQ := Lib.hid (show wa.ownsRow (w.heap.size + 1) 61 6 (.slice (some ⟨w.heap.size + 1, 0, none⟩) 1 1) 1 (ints (clist fun _ => 0)) from Ext.own (by repeat (first | exact Ext.refl _ | assumption | refine Ext.trans ?_ (by assumption) | refine Ext.drew ?_ | refine Ext.drewN ?_ _ | refine Ext.alloc ?_ _)) HO1.out); have y0 := six_at OQ.out (show 0 < 6 by decide); have y1 := six_at OQ.out (show 1 < 6 by decide); have y2 := six_at OQ.out (show 2 < 6 by decide); have y3 := six_at OQ.out (show 3 < 6 by decide); have y4 := six_at OQ.out (show 4 < 6 by decide); have y5 := six_at OQ.out (show 5 < 6 by decide)) | (go_at_call 56; refine (l9Good_any _ _ _ ms _ (hm.ext (by repeat (first | exact Ext.refl _ | assumption | refine Ext.trans ?_ (by assumption) | refine Ext.drew ?_ | refine Ext.drewN ?_ _ | refine Ext.alloc ?_ _)))).mono ?_; rintro e wb ⟨rfl, he2⟩; have OQ := Lib.hid (show wb.ownsRow (w.heap.size + 1) 61 6 (.slice (some ⟨w.heap.size + 1, 0, none⟩) 1 1) 1 (ints (clist fun _ => 0)) from Ext.own (by repeat (first | exact Ext.refl _ | assumption | refine Ext.trans ?_ (by assumption) | refine Ext.drew ?_ | refine Ext.drewN ?_ _ | refine Ext.alloc ?_ _)) HO1.out); have y0 := six_at OQ.out (show 0 < 6 by decide); have y1 := six_at OQ.out (show 1 < 6 by decide); have y2 := six_at OQ.out (show 2 < 6 by decide); have y3 := six_at OQ.out (show 3 < 6 by decide); have y4 := six_at OQ.out (show 4 < 6 by decide); have y5 := six_at OQ.out (show 5 < 6 by decide)) | (go_at_call 46; refine (l10Good_any _ _ _ xs _ (hx.ext (by repeat (first | exact Ext.refl _ | assumption | refine Ext.trans ?_ (by assumption) | refine Ext.drew ?_ | refine Ext.drewN ?_ _ | refine Ext.alloc ?_ _)))).mono ?_; rintro e wc ⟨rfl, he3⟩; have OQ := Lib.hid (show wc.ownsRow (w.heap.size + 1) 61 6 (.slice (some ⟨w.heap.size + 1, 0, none⟩) 1 1) 1 (ints (clist fun _ => 0)) from Ext.own (by repeat (first | exact Ext.refl _ | assumption | refine Ext.trans ?_ (by assumption) | refine Ext.drew ?_ | refine Ext.drewN ?_ _ | refine Ext.alloc ?_ _)) HO1.out); have y0 := six_at OQ.out (show 0 < 6 by decide); have y1 := six_at OQ.out (show 1 < 6 by decide); have y2 := six_at OQ.out (show 2 < 6 by decide); have y3 := six_at OQ.out (show 3 < 6 by decide); have y4 := six_at OQ.out (show 4 < 6 by decide); have y5 := six_at OQ.out (show 5 < 6 by decide)) | (refine wpList_store_own rfl 61 (.tmp 6) (.tmp 25) rfl w.heap.size 0 (csix fun _ => 0) rfl rfl w.heap.size 61 6 1 1 (ints (clist fun _ => 0)) (Ext.own (by repeat (first | exact Ext.refl _ | assumption | refine Ext.trans ?_ (by assumption) | refine Ext.drew ?_ | refine Ext.drewN ?_ _ | refine Ext.alloc ?_ _)) HO0.out) (by decide) size6 (by rfl) ?_; intro wz ho2 hg2; rw [set_six] at ho2))
      have z0 := six_at ho2 (show 0 < 6 by decide)
      have z1 := six_at ho2 (show 1 < 6 by decide)
      have z2 := six_at ho2 (show 2 < 6 by decide)
      have z3 := six_at ho2 (show 3 < 6 by decide)
      have z4 := six_at ho2 (show 4 < 6 by decide)
      have z5 := six_at ho2 (show 5 < 6 by decide)
      exact bodyPost_ret (v := .tuple #[.agg (csix fun _ => 0).toArray, .bool false]) (by simp [results, Try.results39, go_sem, z0, z1, z2, z3, z4, z5, csix]) rfl ⟨rfl, (Ext.row (a := w) (by repeat (first | exact Ext.refl _ | assumption | refine Ext.trans ?_ (by assumption) | refine Ext.drew ?_ | refine Ext.drewN ?_ _ | refine Ext.alloc ?_ _)) hg2 (Nat.le_refl _))⟩
  · have hok : countsOk rs ms xs = true := by simp [countsOk, *]
    rw [show countsF rs ms xs = fcnt rs ms xs xs.length by simp [countsF, hok], hok]
    clear hok
    have hlen := CoversOk_len h3
    have HLN := Lib.hid hx.len
    have hn10 : n3 ≤ 10 := by have := HLN.out; omega
    have HG := Lib.hid (CoversOk_good h3)
    have HB := Lib.hid (fcnt_bd rs ms xs)
    have C := Lib.hid (fun (x : Cover) (hgx : cvGood x = true) wx (hr : RateL wx A n rs) (hm : MailL wx B n2 ms) => l10Fault_any A n c rs B n2 c2 ms x wx hr hm h1 h2 hgx)
    clear hlen
    go_enter Try.func39, Try.ntmps39
    go_wp2_with (first | (go_at_call 49; refine (l8Good_any _ _ _ rs _ (hr.ext (by repeat (first | exact Ext.refl _ | assumption | refine Ext.trans ?_ (by assumption) | refine Ext.drew ?_ | refine Ext.drewN ?_ _ | refine Ext.alloc ?_ _)))).mono ?_; rintro e wa ⟨rfl, he1⟩; have OQ := Lib.hid (show wa.ownsRow (w.heap.size + 1) 61 6 (.slice (some ⟨w.heap.size + 1, 0, none⟩) 1 1) 1 (ints (clist fun _ => 0)) from Ext.own (by repeat (first | exact Ext.refl _ | assumption | refine Ext.trans ?_ (by assumption) | refine Ext.drew ?_ | refine Ext.drewN ?_ _ | refine Ext.alloc ?_ _)) HO1.out); have y0 := six_at OQ.out (show 0 < 6 by decide); have y1 := six_at OQ.out (show 1 < 6 by decide); have y2 := six_at OQ.out (show 2 < 6 by decide); have y3 := six_at OQ.out (show 3 < 6 by decide); have y4 := six_at OQ.out (show 4 < 6 by decide); have y5 := six_at OQ.out (show 5 < 6 by decide)) | (go_at_call 56; refine (l9Good_any _ _ _ ms _ (hm.ext (by repeat (first | exact Ext.refl _ | assumption | refine Ext.trans ?_ (by assumption) | refine Ext.drew ?_ | refine Ext.drewN ?_ _ | refine Ext.alloc ?_ _)))).mono ?_; rintro e wb ⟨rfl, he2⟩; have OQ := Lib.hid (show wb.ownsRow (w.heap.size + 1) 61 6 (.slice (some ⟨w.heap.size + 1, 0, none⟩) 1 1) 1 (ints (clist fun _ => 0)) from Ext.own (by repeat (first | exact Ext.refl _ | assumption | refine Ext.trans ?_ (by assumption) | refine Ext.drew ?_ | refine Ext.drewN ?_ _ | refine Ext.alloc ?_ _)) HO1.out); have y0 := six_at OQ.out (show 0 < 6 by decide); have y1 := six_at OQ.out (show 1 < 6 by decide); have y2 := six_at OQ.out (show 2 < 6 by decide); have y3 := six_at OQ.out (show 3 < 6 by decide); have y4 := six_at OQ.out (show 4 < 6 by decide); have y5 := six_at OQ.out (show 5 < 6 by decide)) | (go_at_call 46; refine (l10Good_any _ _ _ xs _ (hx.ext (by repeat (first | exact Ext.refl _ | assumption | refine Ext.trans ?_ (by assumption) | refine Ext.drew ?_ | refine Ext.drewN ?_ _ | refine Ext.alloc ?_ _)))).mono ?_; rintro e wc ⟨rfl, he3⟩; have OQ := Lib.hid (show wc.ownsRow (w.heap.size + 1) 61 6 (.slice (some ⟨w.heap.size + 1, 0, none⟩) 1 1) 1 (ints (clist fun _ => 0)) from Ext.own (by repeat (first | exact Ext.refl _ | assumption | refine Ext.trans ?_ (by assumption) | refine Ext.drew ?_ | refine Ext.drewN ?_ _ | refine Ext.alloc ?_ _)) HO1.out); have y0 := six_at OQ.out (show 0 < 6 by decide); have y1 := six_at OQ.out (show 1 < 6 by decide); have y2 := six_at OQ.out (show 2 < 6 by decide); have y3 := six_at OQ.out (show 3 < 6 by decide); have y4 := six_at OQ.out (show 4 < 6 by decide); have y5 := six_at OQ.out (show 5 < 6 by decide)))
    have hE0 : Ext (w.alloc (.cells #[.int .i64 0, .int .i64 0, .int .i64 0, .int .i64 0, .int .i64 0, .int .i64 0] 61)) wc := (by repeat (first | exact Ext.refl _ | assumption | refine Ext.trans ?_ (by assumption) | refine Ext.drew ?_ | refine Ext.drewN ?_ _ | refine Ext.alloc ?_ _))
    have HW1 := OQ
    clear y0 y1 y2 y3 y4 y5
    have hW0 : Ext w (w.alloc (.cells #[.int .i64 0, .int .i64 0, .int .i64 0, .int .i64 0, .int .i64 0, .int .i64 0] 61)) := (by repeat (first | exact Ext.refl _ | assumption | refine Ext.trans ?_ (by assumption) | refine Ext.drew ?_ | refine Ext.drewN ?_ _ | refine Ext.alloc ?_ _))
    go_loopw [9] (fun i wr => ∃ k : Nat, k ≤ n3 ∧ i = .int .i64 k ∧ wr.ownsRow (w.heap.size + 1) 61 6 (.slice (some ⟨w.heap.size + 1, 0, none⟩) 1 1) 1 (ints (clist (fcnt rs ms xs k))) ∧ Ext (w.alloc (.cells #[.int .i64 0, .int .i64 0, .int .i64 0, .int .i64 0, .int .i64 0, .int .i64 0] 61)) wr) (fun i _ => n3 - (intOf i).toNat)
    case atStart => exact ⟨0, Nat.zero_le _, rfl, HW1.out, hE0⟩
    case round =>
      obtain ⟨k, hk, rfl, ho, he⟩ := hrel
      by_cases hlt : k < n3
      · obtain ⟨b, off, x, rfl, hb, hxk, g0, g1, g2, g3, g4, g5, g6, g7, g8⟩ := (hx.ext (hW0.trans he)).at_ hlt
        have hgx := Lib.hid (show cvGood x = true from HG.out x (List.mem_of_getElem? hxk.out))
        obtain ⟨f1, f2⟩ := faultV_bd rs ms x
        obtain ⟨j, hj⟩ : ∃ j : Nat, faultV rs ms x = j := ⟨(faultV rs ms x).toNat, by omega⟩
        have CX := Lib.hid (C.out x hgx.out)
        rw [hj] at CX f2
        have hj6 : j < 6 := by omega
        have hs := Lib.hid (fcnt_succ hxk.out hj)
        have hqb := HB.out k j
        generalize hq : fcnt rs ms xs k j = q at *
        have HQ := Lib.hid hq
        have hlc : w.heap.size + 1 < wr.heap.size := (ho.lt _ rfl).2
        have HO := Lib.hid ho
        clear ho hj hq f1
        go_wp2_with (go_at_call 64; refine (CX.out _ (hr.ext (by repeat (first | exact Ext.refl _ | assumption | refine Ext.trans ?_ (by assumption) | refine Ext.drew ?_ | refine Ext.drewN ?_ _ | refine Ext.alloc ?_ _))) (hm.ext (by repeat (first | exact Ext.refl _ | assumption | refine Ext.trans ?_ (by assumption) | refine Ext.drew ?_ | refine Ext.drewN ?_ _ | refine Ext.alloc ?_ _)))).mono ?_; rintro e wd ⟨rfl, he4⟩; have OQ := Lib.hid (show wd.ownsRow (w.heap.size + 1) 61 6 (.slice (some ⟨w.heap.size + 1, 0, none⟩) 1 1) 1 (ints (clist (fcnt rs ms xs k))) from Ext.own (by repeat (first | exact Ext.refl _ | assumption | refine Ext.trans ?_ (by assumption) | refine Ext.drew ?_ | refine Ext.drewN ?_ _ | refine Ext.alloc ?_ _)) HO.out); have cj := six_at OQ.out hj6; rw [HQ.out] at cj; have fj := OQ.out.frozenAt j)
        go_roundw
        case rel =>
          have ho2 := (OQ.out.stored j (.int .i64 (q + 1))).1
          rw [crow_set] at ho2
          exact ⟨k + 1, by omega, by go_num, by rw [hs.out]; exact ho2, (Ext.set (a := w.alloc (.cells #[.int .i64 0, .int .i64 0, .int .i64 0, .int .i64 0, .int .i64 0, .int .i64 0] 61)) (by repeat (first | exact Ext.refl _ | assumption | refine Ext.trans ?_ (by assumption) | refine Ext.drew ?_ | refine Ext.drewN ?_ _ | refine Ext.alloc ?_ _)) (by simp) _)⟩
        case measure => simp [intOf]; omega
      · obtain rfl : n3 = k := by omega
        rw [← HLN.out] at ho
        obtain ⟨F, hF⟩ : ∃ F, fcnt rs ms xs xs.length = F := ⟨_, rfl⟩
        rw [hF] at ho
        have HF := Lib.hid hF
        clear hF
        have HRW := Lib.hid (he.own HO0.out)
        have z0 := six_at ho (show 0 < 6 by decide)
        have z1 := six_at ho (show 1 < 6 by decide)
        have z2 := six_at ho (show 2 < 6 by decide)
        have z3 := six_at ho (show 3 < 6 by decide)
        have z4 := six_at ho (show 4 < 6 by decide)
        have z5 := six_at ho (show 5 < 6 by decide)
        go_wp2_with (refine wpList_store_own rfl 61 (.tmp 6) (.tmp 45) rfl w.heap.size 0 (csix F) rfl rfl w.heap.size 61 6 1 1 (ints (clist fun _ => 0)) HRW.out (Nat.le_refl 6) size6 (by rfl) ?_; intro wz ho2 hg2; rw [set_six] at ho2)
        have z0 := six_at ho2 (show 0 < 6 by decide)
        have z1 := six_at ho2 (show 1 < 6 by decide)
        have z2 := six_at ho2 (show 2 < 6 by decide)
        have z3 := six_at ho2 (show 3 < 6 by decide)
        have z4 := six_at ho2 (show 4 < 6 by decide)
        have z5 := six_at ho2 (show 5 < 6 by decide)
        exact bodyPost_ret (v := .tuple #[.agg (csix F).toArray, .bool true]) (by simp [results, Try.results39, go_sem, z0, z1, z2, z3, z4, z5, csix]) rfl ⟨by rw [HF.out], (Ext.row (a := w) (hW0.trans he) hg2 (Nat.le_refl _))⟩

set_option maxRecDepth 100000 in
set_option maxHeartbeats 400000 in
theorem eqIntA6_same (F : Nat → Int) (w : World) :
    Calls Try.prog 41 #[.agg #[.int .i64 (F 0), .int .i64 (F 1), .int .i64 (F 2), .int .i64 (F 3), .int .i64 (F 4), .int .i64 (F 5)], .agg #[.int .i64 (F 0), .int .i64 (F 1), .int .i64 (F 2), .int .i64 (F 3), .int .i64 (F 4), .int .i64 (F 5)]] w fun e w' => e = .returned (.bool true) ∧ Ext w w' := by
  have h1 := own_six w 61 F
  have h2 := own_six (w.alloc (.cells (csix F).toArray 61)) 61 F
  have H1 := Lib.hid (fun k hk => six_at (h1.alloc (.cells (csix F).toArray 61)) (k := k) hk)
  have H2 := Lib.hid (fun k hk => six_at h2 (k := k) hk)
  clear h1 h2
  go_enter Try.func41, Try.ntmps41
  go_wp2
  go_loopw [5] (fun i wr => ∃ k : Nat, k ≤ 6 ∧ i = .int .i64 k ∧ Ext ((w.alloc (.cells #[.int .i64 (F 0), .int .i64 (F 1), .int .i64 (F 2), .int .i64 (F 3), .int .i64 (F 4), .int .i64 (F 5)] 61)).alloc (.cells #[.int .i64 (F 0), .int .i64 (F 1), .int .i64 (F 2), .int .i64 (F 3), .int .i64 (F 4), .int .i64 (F 5)] 61)) wr) (fun i _ => 6 - (intOf i).toNat)
  case atStart => exact ⟨0, Nat.zero_le _, rfl, Ext.refl _⟩
  case round =>
    obtain ⟨k, hk, rfl, he⟩ := hrel
    by_cases hlt : k < 6
    · have c1 := he.cell1 (H1.out k hlt)
      have c2 := he.cell1 (H2.out k hlt)
      simp only [World.size_alloc] at c1 c2
      have hz := he.size
      simp only [World.size_alloc] at hz
      have z1 : w.heap.size < wr.heap.size := by omega
      have z2 : w.heap.size + 1 < wr.heap.size := by omega
      generalize F k = v at c1 c2
      clear hz
      go_wp2
      (refine wp_region_ext_lit (by kernel_rfl) (by kernel_rfl) ?_; (repeat (go_big_quiet_step ((fail)))); refine wpQuiet_nil ?_; rintro wq ⟨⟨_, heq⟩, rfl⟩; (try dsimp only))
      go_wp2
      go_roundw
      case rel => exact ⟨k + 1, by omega, by go_num, he.trans heq⟩
      case measure => simp [intOf]; omega
    · obtain rfl : k = 6 := by omega
      go_wp2
      go_ret
      exact ⟨rfl, Ext.trans (by repeat (first | exact Ext.refl _ | assumption | refine Ext.trans ?_ (by assumption) | refine Ext.drew ?_ | refine Ext.drewN ?_ _ | refine Ext.alloc ?_ _)) he⟩
end Go.Proofs.Ytopjomkjdmcljaa
