/- LatestLeave. -/
import Derived.Test.YtmgpdenofkloeaaDoorEarl
namespace Go.Proofs.YtmgpdenofkloeaaDoor
open Go.RowKit
set_option linter.unusedVariables false
set_option linter.unusedSimpArgs false
attribute [local go_sem] ExtOf.cell

/-- A first mail of a route that is in time. -/
def lateB (xs : List Mail) (f t y : Int) (x : Mail) : Bool := (x.From == f) && decide (times xs x.To x.Arrive t.toNat ≤ y)
def lateTo (xs : List Mail) (f t y : Int) (k : Nat) : Int := (((xs.take k).reverse.find? (lateB xs f t y)).map Mail.Leave).getD (-1)
def lateV (xs : List Mail) (f t y : Int) : Int := ((xs.reverse.find? (lateB xs f t y)).map Mail.Leave).getD (-1)
theorem lateTo_zero (xs : List Mail) (f t y : Int) : lateTo xs f t y 0 = -1 := by simp [lateTo]
theorem lateTo_end {xs : List Mail} {f t y : Int} {n : Nat} (h : xs.length ≤ n) : lateTo xs f t y n = lateV xs f t y := by
  unfold lateTo lateV; rw [List.take_of_length_le h]
theorem lateTo_no {xs : List Mail} {f t y : Int} {k : Nat} {x : Mail} (h : xs[k]? = some x) (hp : lateB xs f t y x = false) : lateTo xs f t y (k + 1) = lateTo xs f t y k := by
  obtain ⟨hk, e⟩ := List.getElem?_eq_some_iff.1 h
  unfold lateTo
  rw [List.take_succ_eq_append_getElem hk, e, List.reverse_append, List.reverse_singleton, List.singleton_append, List.find?_cons, hp]
theorem lateTo_yes {xs : List Mail} {f t y : Int} {k : Nat} {x : Mail} (h : xs[k]? = some x) (hp : lateB xs f t y x = true) : lateTo xs f t y (k + 1) = x.Leave := by
  obtain ⟨hk, e⟩ := List.getElem?_eq_some_iff.1 h
  unfold lateTo
  rw [List.take_succ_eq_append_getElem hk, e, List.reverse_append, List.reverse_singleton, List.singleton_append, List.find?_cons, hp]
  rfl
theorem lateTo_bd {xs : List Mail} {f t y : Int} {k : Nat} {x : Mail} (hok : MailsOk xs = true) (h : xs[k]? = some x) : -1 ≤ lateTo xs f t y k ∧ lateTo xs f t y k ≤ x.Leave := by
  obtain ⟨hk, e⟩ := List.getElem?_eq_some_iff.1 h
  have hg := MailsOk_good hok
  have hs := MailsOk_sorted hok
  have hx := good_all (hg x (List.mem_of_getElem? h))
  unfold lateTo
  cases hf : (xs.take k).reverse.find? (lateB xs f t y) with
  | none => simp; omega
  | some z =>
    have hm := List.mem_of_find?_eq_some hf
    rw [List.mem_reverse] at hm
    have hz := good_all (hg z (List.mem_of_mem_take hm))
    obtain ⟨i, hi, ez⟩ := List.getElem_of_mem hm
    rw [List.length_take] at hi
    rw [List.getElem_take] at ez
    have := (List.pairwise_iff_getElem.1 hs) i k (by omega) hk (by omega)
    rw [ez, e] at this
    simp
    omega
theorem lateV_bd {xs : List Mail} {f t y : Int} (hok : MailsOk xs = true) : -1 ≤ lateV xs f t y ∧ lateV xs f t y ≤ 9998 := by
  have hg := MailsOk_good hok
  unfold lateV
  cases hf : xs.reverse.find? (lateB xs f t y) with
  | none => simp
  | some z =>
    have hm := List.mem_of_find?_eq_some hf
    rw [List.mem_reverse] at hm
    have hz := good_all (hg z hm)
    simp
    omega
/-- No hit from index k on. -/
def noneFrom {α : Type} (p : α → Bool) (xs : List α) (k : Nat) : Prop := ∀ x ∈ xs.drop k, p x = false
theorem noneFrom_end {α : Type} (p : α → Bool) (xs : List α) {n : Nat} (h : xs.length ≤ n) : noneFrom p xs n := by
  intro x hx
  rw [List.drop_eq_nil_of_le h] at hx
  cases hx
theorem noneFrom_pred {α : Type} {p : α → Bool} {xs : List α} {k : Nat} {x : α} (h : noneFrom p xs (k + 1)) (hx : xs[k]? = some x) (hp : p x = false) : noneFrom p xs k := by
  obtain ⟨hk, e⟩ := List.getElem?_eq_some_iff.1 hx
  intro y hy
  rw [List.drop_eq_getElem_cons hk, List.mem_cons] at hy
  rcases hy with hy | hy
  · rw [hy, e]; exact hp
  · exact h y hy
theorem late_hit {xs : List Mail} {f t y : Int} {k : Nat} {x : Mail} (h : noneFrom (lateB xs f t y) xs (k + 1)) (hx : xs[k]? = some x) (hp : lateB xs f t y x = true) : lateV xs f t y = x.Leave := by
  obtain ⟨hk, e⟩ := List.getElem?_eq_some_iff.1 hx
  have hs : xs.reverse = (xs.drop (k + 1)).reverse ++ x :: (xs.take k).reverse := by
    conv => lhs; rw [show xs = xs.take k ++ (x :: xs.drop (k + 1)) by rw [← e, List.getElem_cons_drop hk, List.take_append_drop]]
    simp
  unfold lateV
  rw [hs, List.find?_append, show (xs.drop (k + 1)).reverse.find? (lateB xs f t y) = none from List.find?_eq_none.2 (fun z hz => by rw [h z (List.mem_reverse.1 hz)]; simp), Option.none_or, List.find?_cons, hp]
  rfl
theorem late_miss {xs : List Mail} {f t y : Int} (h : noneFrom (lateB xs f t y) xs 0) : lateV xs f t y = -1 := by
  unfold lateV
  rw [List.find?_eq_none.2 (fun z hz => by rw [h z (by simpa using hz)]; simp)]
  rfl
def askL (xs : List Mail) (f t y : Int) : Bool := MailsOk xs && (inB f 0 9 && (inB t 0 9 && (!(decide (f = t)) && inB y 0 9999)))
def lateR (xs : List Mail) (f t y : Int) : Int := if askL xs f t y then max (lateV xs f t y) 0 else 0
def hasL (xs : List Mail) (f t y : Int) : Bool := askL xs f t y && decide (0 ≤ lateV xs f t y)

set_option maxRecDepth 100000 in
set_option maxHeartbeats 1000000 in
theorem latestLeave_any (A : Option Addr) (n c : Nat) (xs : List Mail) (f t y : Int) (w : World) (h : MailL w A n xs) (hok : MailsOk xs = true) (ht : inB t 0 9 = true) (hy : y ≤ 9999) :
    Calls Tryd.prog 25 #[.slice A n c, .int .i64 f, .int .i64 t, .int .i64 y] w fun e w' => e = .returned (.tuple #[.int .i64 (max (lateV xs f t y) 0), .bool (decide (0 ≤ lateV xs f t y))]) ∧ Ext w w' := by
  obtain ⟨t1, t2⟩ := inB_iff.1 ht
  obtain ⟨t, rfl⟩ : ∃ g : Nat, t = g := ⟨t.toNat, by omega⟩
  have ht10 : t < 10 := by omega
  have hsm := h.small
  have HOK := Lib.hid hok
  have HG := Lib.hid (MailsOk_good hok)
  clear hok ht
  go_enter Tryd.func25, Tryd.ntmps25
  go_wp2
  go_loopw [10, 15] (fun l i wr => ∃ k : Nat, k ≤ n ∧ i = .int .i64 k ∧ l = .int .i64 (lateTo xs f t y k) ∧ Ext w wr) (fun _ i _ => n - (intOf i).toNat)
  case atStart => exact ⟨0, Nat.zero_le _, rfl, by rw [lateTo_zero], Ext.refl _⟩
  case round =>
    obtain ⟨k, hk, rfl, rfl, he⟩ := hrel
    by_cases hlt : k < n
    · obtain ⟨b, off, x, rfl, hb, hx, q0, q1, q2, q3⟩ := (h.ext he).at_ hlt
      have HX := Lib.hid (good_all (HG.out x (List.mem_of_getElem? hx.out)))
      have HN := Lib.hid (lateTo_no (f := f) (t := (t : Int)) (y := y) hx.out)
      have HY := Lib.hid (lateTo_yes (f := f) (t := (t : Int)) (y := y) hx.out)
      obtain ⟨l1, l2⟩ := lateTo_bd (f := f) (t := (t : Int)) (y := y) HOK.out hx.out
      generalize hL : lateTo xs f t y k = L at *
      have HL := Lib.hid hL
      clear hL
      by_cases hf : x.From = f
      · have hd : (x.From == f) = true := by simpa using hf
        have HF := Lib.hid hf
        clear hf
        have P1 := Lib.hid (show inB x.To 0 9 = true from inB_iff.2 HX.out.2.1)
        have P2 := Lib.hid (show inB x.Arrive 0 9999 = true from inB_iff.2 HX.out.2.2.2.1)
        have hbd := times_bd (f := x.To) HG.out HX.out.2.2.2.1.1 HX.out.2.2.2.1.2 t
        have hin := Lib.hid (negT_in (l := y) (by have := HX.out.2.2.2.1.1; omega : 0 ≤ times xs x.To x.Arrive t) hbd.2 hy)
        have hlb := Lib.hid (show lateB xs f t y x = decide (times xs x.To x.Arrive t ≤ y) by unfold lateB; rw [hd, Bool.true_and]; rfl)
        cases hq : decide (times xs x.To x.Arrive t ≤ y)
        · have hs := Lib.hid (HN.out (hlb.out.trans hq))
          have C := Lib.hid (inRange_any (negT (times xs x.To x.Arrive t)) 0 y)
          rw [hin.out, hq] at C
          clear hq hbd
          go_wp2_with (first | (go_at_call 29; refine (earliest_any _ _ _ xs _ _ _ (h.ext (he.alloc _)) HOK.out P1.out P2.out).mono ?_; rintro e we ⟨ge, hge, rfl, oe, he2⟩; have ce := row_cell oe ht10; unfold negF at ce; have hc2 := he2.cells) | (go_at_call 30; refine (C.out _).mono ?_; rintro e w' ⟨rfl, rfl⟩))
          go_roundw
          case rel => exact ⟨k + 1, by omega, by go_num, by rw [hs.out], (he.alloc _).trans he2⟩
          case measure => simp [intOf]; omega
        · have hs := Lib.hid (HY.out (hlb.out.trans hq))
          have C := Lib.hid (inRange_any (negT (times xs x.To x.Arrive t)) 0 y)
          rw [hin.out, hq] at C
          clear hq hbd
          go_wp2_with (first | (go_at_call 29; refine (earliest_any _ _ _ xs _ _ _ (h.ext (he.alloc _)) HOK.out P1.out P2.out).mono ?_; rintro e we ⟨ge, hge, rfl, oe, he2⟩; have ce := row_cell oe ht10; unfold negF at ce; have hc2 := he2.cells; have hz2 : wr.heap.size < we.heap.size := (by have h := he2.size; simp only [World.size_alloc] at h; omega)) | (go_at_call 30; refine (C.out _).mono ?_; rintro e w' ⟨rfl, rfl⟩))
          go_roundw
          case rel => exact ⟨k + 1, by omega, by go_num, by rw [hs.out]; congr 1; omega, (he.alloc _).trans he2⟩
          case measure => simp [intOf]; omega
      · have hd : (x.From == f) = false := by simpa using hf
        have hs := Lib.hid (HN.out (by unfold lateB; rw [hd]; rfl))
        clear hf
        go_wp2
        go_roundw
        case rel => exact ⟨k + 1, by omega, by go_num, by rw [hs.out], he.alloc _⟩
        case measure => simp [intOf]; omega
    · obtain rfl : n = k := by omega
      have hend := Lib.hid (lateTo_end (f := f) (t := (t : Int)) (y := y) (Nat.le_of_eq h.len))
      generalize hL : lateTo xs f t y n = L
      have HL := Lib.hid hL
      clear hL
      go_wp2
      all_goals
        go_ret2
        exact ⟨ret_int_bool (by rw [← hend.out, HL.out]; omega) (by rw [← hend.out, HL.out]; try (simp; omega)), he⟩

set_option maxRecDepth 100000 in
set_option maxHeartbeats 1000000 in
theorem LatestLeaveI_any (A : Option Addr) (n c : Nat) (xs : List Mail) (f t y : Int) (w : World) (h : MailL w A n xs) :
    Calls Tryd.prog 6 #[.slice A n c, .int .i64 f, .int .i64 t, .int .i64 y] w fun e w' => e = .returned (.tuple #[.int .i64 (lateR xs f t y), .bool (hasL xs f t y)]) ∧ Ext w w' := by
  rcases chain5 (MailsOk xs) (inB f 0 9) (inB t 0 9) (!(decide (f = t))) (inB y 0 9999) with h1 | ⟨h1, h2⟩ | ⟨h1, h2, h3⟩ | ⟨h1, h2, h3, h4⟩ | ⟨h1, h2, h3, h4, h5⟩ | ⟨h1, h2, h3, h4, h5⟩
  iterate 5
    · have ha : askL xs f t y = false := by simp only [askL, *]; rfl
      have z1 : lateR xs f t y = 0 := by simp [lateR, ha]
      have z2 : hasL xs f t y = false := by simp [hasL, ha]
      rw [z1, z2]
      (first | (have g1 : decide (f = t) = true := by simpa using h4) | (have g1 : decide (f = t) = false := by simpa using h4) | skip)
      (first | (have g2 : (f == t) = true := by simpa using h4) | (have g2 : (f == t) = false := by simpa using h4) | skip)
      clear z1 z2 ha
      (try clear h4)
      go_enter Tryd.func6, Tryd.ntmps6
      go_wp2_with (first | (go_at_call 22; refine (isTimetable_any _ _ _ xs _ h).mono ?_; rintro e wa ⟨rfl, he1⟩; have hc1 := he1.cells) | (go_at_call 23; refine (isOffice_any _ _).mono ?_; rintro e w' ⟨rfl, rfl⟩) | (go_at_call 24; refine (isMinute_any _ _).mono ?_; rintro e w' ⟨rfl, rfl⟩))
      go_ret2
      exact ⟨rfl, he1⟩
  · have ha : askL xs f t y = true := by simp only [askL, *]; rfl
    have z1 : lateR xs f t y = max (lateV xs f t y) 0 := by simp [lateR, ha]
    have z2 : hasL xs f t y = decide (0 ≤ lateV xs f t y) := by simp [hasL, ha]
    rw [z1, z2]
    have g1 : decide (f = t) = false := by simpa using h4
    have g2 : (f == t) = false := by simpa using h4
    have HOK := Lib.hid h1
    have HT := Lib.hid h3
    obtain ⟨y1, y2⟩ := inB_iff.1 h5
    clear z1 z2 ha h4
    generalize hm : max (lateV xs f t y) 0 = a1
    generalize hp : decide (0 ≤ lateV xs f t y) = a2
    have C := Lib.hid (fun wx (hx : MailL wx A n xs) => latestLeave_any A n c xs f t y wx hx HOK.out HT.out y2)
    rw [hm, hp] at C
    clear hm hp
    go_enter Tryd.func6, Tryd.ntmps6
    go_wp2_with (first | (go_at_call 22; refine (isTimetable_any _ _ _ xs _ h).mono ?_; rintro e wa ⟨rfl, he1⟩; have hc1 := he1.cells) | (go_at_call 23; refine (isOffice_any _ _).mono ?_; rintro e w' ⟨rfl, rfl⟩) | (go_at_call 24; refine (isMinute_any _ _).mono ?_; rintro e w' ⟨rfl, rfl⟩) | (go_at_call 25; refine (C.out _ (h.ext he1)).mono ?_; rintro e we ⟨rfl, he2⟩))
    go_ret2
    exact ⟨rfl, he1.trans he2⟩

set_option maxRecDepth 100000 in
set_option maxHeartbeats 1000000 in
theorem LatestLeaveS_any (A : Option Addr) (n c : Nat) (xs : List Mail) (f t y : Int) (w : World) (h : MailL w A n xs) :
    Calls Tryd.prog 7 #[.slice A n c, .int .i64 f, .int .i64 t, .int .i64 y] w fun e w' => e = .returned (.tuple #[.int .i64 (lateR xs f t y), .bool (hasL xs f t y)]) ∧ Ext w w' := by
  rcases chain3 (askM xs f y) (inB t 0 9) (!(decide (f = t))) with h1 | ⟨h1, h2⟩ | ⟨h1, h2, h3⟩ | ⟨h1, h2, h3⟩
  iterate 3
    · have ha : askL xs f t y = false := by
        rw [Bool.eq_false_iff]; intro hh
        simp only [askL, Bool.and_eq_true] at hh
        simp only [askM, hh, Bool.and_true, Bool.true_and] at *
        simp_all
      have z1 : lateR xs f t y = 0 := by simp [lateR, ha]
      have z2 : hasL xs f t y = false := by simp [hasL, ha]
      rw [z1, z2]
      (first | (have g1 : decide (f = t) = true := by simpa using h3) | (have g1 : decide (f = t) = false := by simpa using h3) | skip)
      (first | (have g2 : (f == t) = true := by simpa using h3) | (have g2 : (f == t) = false := by simpa using h3) | skip)
      clear z1 z2 ha
      (try clear h3)
      go_enter Tryd.func7, Tryd.ntmps7
      go_wp2_with (first | (go_at_call 26; refine (l9Asked_any _ _ _ xs _ _ _ h).mono ?_; rintro e wa ⟨rfl, he1⟩; have hc1 := he1.cells) | (go_at_call 27; refine (l9Office_any _ _).mono ?_; rintro e w' ⟨rfl, rfl⟩))
      go_ret2
      exact ⟨rfl, he1⟩
  · have h1' := h1
    simp only [askM, Bool.and_eq_true] at h1'
    obtain ⟨k1, k2, k3⟩ := h1'
    have ha : askL xs f t y = true := by simp only [askL, *]; rfl
    have z1 : lateR xs f t y = max (lateV xs f t y) 0 := by simp [lateR, ha]
    have z2 : hasL xs f t y = decide (0 ≤ lateV xs f t y) := by simp [hasL, ha]
    rw [z1, z2]
    have g1 : decide (f = t) = false := by simpa using h3
    have g2 : (f == t) = false := by simpa using h3
    obtain ⟨t1, t2⟩ := inB_iff.1 h2
    obtain ⟨t, rfl⟩ : ∃ g : Nat, t = g := ⟨t.toNat, by omega⟩
    have ht10 : t < 10 := by omega
    have hsm := h.small
    have HOK := Lib.hid k1
    have HG := Lib.hid (MailsOk_good k1)
    have HL := Lib.hid h.len
    have hlb := Lib.hid (lateV_bd (f := f) (t := (t : Int)) (y := y) k1)
    clear z1 z2 ha h3 k1 k2 k3
    go_enter Tryd.func7, Tryd.ntmps7
    go_wp2_with (first | (go_at_call 26; refine (l9Asked_any _ _ _ xs _ _ _ h).mono ?_; rintro e wa ⟨rfl, he1⟩; have hc1 := he1.cells) | (go_at_call 27; refine (l9Office_any _ _).mono ?_; rintro e w' ⟨rfl, rfl⟩))
    clear hc1
    go_loopw [10] (fun i wr => ∃ v : Int, -1 ≤ v ∧ v < n ∧ i = .int .i64 v ∧ noneFrom (lateB xs f t y) xs (v + 1).toNat ∧ Ext w wr) (fun i _ => (intOf i + 1).toNat)
    case atStart => exact ⟨(n : Int) - 1, by omega, by omega, rfl, noneFrom_end _ _ (by have := HL.out; omega), he1⟩
    case round =>
      obtain ⟨v, hv1, hv2, rfl, hno, he⟩ := hrel
      have HNO := Lib.hid hno
      clear hno he1
      by_cases hlt : 0 ≤ v
      · obtain ⟨k, rfl⟩ : ∃ g : Nat, v = g := ⟨v.toNat, by omega⟩
        have hkn : k < n := by omega
        have HNO2 := Lib.hid (show noneFrom (lateB xs f t y) xs (k + 1) from HNO.out)
        clear HNO
        obtain ⟨b, off, x, rfl, hb, hx, q0, q1, q2, q3⟩ := (h.ext he).at_ hkn
        have HX := Lib.hid (good_all (HG.out x (List.mem_of_getElem? hx.out)))
        have HN := Lib.hid (fun hp => noneFrom_pred (p := lateB xs f t y) HNO2.out hx.out hp)
        have HY := Lib.hid (fun hp => late_hit (f := f) (t := (t : Int)) (y := y) HNO2.out hx.out hp)
        by_cases hf : x.From = f
        · have hd : (x.From == f) = true := by simpa using hf
          have hd2 : decide (x.From = f) = true := by simpa using hf
          clear hf
          have P1 := Lib.hid (show inB x.To 0 9 = true from inB_iff.2 HX.out.2.1)
          have P2 := Lib.hid (show inB x.Arrive 0 9999 = true from inB_iff.2 HX.out.2.2.2.1)
          have hbd := times_bd (f := x.To) HG.out HX.out.2.2.2.1.1 HX.out.2.2.2.1.2 t
          have hlb2 := Lib.hid (show lateB xs f t y x = decide (times xs x.To x.Arrive t ≤ y) by unfold lateB; rw [hd, Bool.true_and]; rfl)
          by_cases ha : x.Arrive ≤ y
          · have hda : decide (x.Arrive ≤ y) = true := by simpa using ha
            cases hq : decide (times xs x.To x.Arrive t ≤ y)
            · have hs := Lib.hid (HN.out (hlb2.out.trans hq))
              have hq2 := Lib.hid hq
              clear hq hbd
              go_wp2_with (go_at_call 28; refine (l9Times_any _ _ _ xs _ _ _ (h.ext (he.alloc _)) HOK.out P1.out P2.out).mono ?_; rintro e we ⟨ge, hge, rfl, oe, he2⟩; have ce := row_cell oe ht10; have hc2 := he2.cells; have hq3 := hq2.out)
              go_roundw
              case rel => exact ⟨(k : Int) - 1, by omega, by omega, by go_num, by rw [show ((k : Int) - 1 + 1).toNat = k by omega]; exact hs.out, (he.alloc _).trans he2⟩
              case measure => (simp [intOf]; try omega)
            · have hs := Lib.hid (HY.out (hlb2.out.trans hq))
              have hq2 := Lib.hid hq
              clear hq hbd
              go_wp2_with (go_at_call 28; refine (l9Times_any _ _ _ xs _ _ _ (h.ext (he.alloc _)) HOK.out P1.out P2.out).mono ?_; rintro e we ⟨ge, hge, rfl, oe, he2⟩; have ce := row_cell oe ht10; have hc2 := he2.cells; have hz2 : wr.heap.size < we.heap.size := (by have h := he2.size; simp only [World.size_alloc] at h; omega); have hq3 := hq2.out)
              go_ret2
              exact ⟨ret_int_bool (by rw [hs.out]; have := HX.out; omega) (by rw [hs.out]; have := HX.out; simp; omega), (he.alloc _).trans he2⟩
          · have hda : decide (x.Arrive ≤ y) = false := by simpa using ha
            have hs := Lib.hid (HN.out (hlb2.out.trans (by simp; omega)))
            clear hbd ha
            go_wp2
            go_roundw
            case rel => exact ⟨(k : Int) - 1, by omega, by omega, by go_num, by rw [show ((k : Int) - 1 + 1).toNat = k by omega]; exact hs.out, he.alloc _⟩
            case measure => (simp [intOf]; try omega)
        · have hd : (x.From == f) = false := by simpa using hf
          have hs := Lib.hid (HN.out (by unfold lateB; rw [hd]; rfl))
          clear hf
          go_wp2
          go_roundw
          case rel => exact ⟨(k : Int) - 1, by omega, by omega, by go_num, by rw [show ((k : Int) - 1 + 1).toNat = k by omega]; exact hs.out, he.alloc _⟩
          case measure => (simp [intOf]; try omega)
      · have hend := Lib.hid (late_miss (f := f) (t := (t : Int)) (y := y) (by have := HNO.out; rwa [show (v + 1).toNat = 0 by omega] at this))
        go_wp2
        go_ret2
        exact ⟨ret_int_bool (by rw [hend.out]; omega) (by rw [hend.out]; rfl), he⟩
end Go.Proofs.YtmgpdenofkloeaaDoor
