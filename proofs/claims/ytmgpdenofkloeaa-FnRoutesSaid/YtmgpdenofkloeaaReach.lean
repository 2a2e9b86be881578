/- ReachedBy, MissedMails. -/
import Derived.Test.YtmgpdenofkloeaaEarl
import Derived.Test.YtmgpdenofkloeaaApp
namespace Go.Proofs.Ytmgpdenofkloeaa
open Go.RowKit
set_option linter.unusedVariables false
set_option linter.unusedSimpArgs false
attribute [local go_sem] ExtOf.cell

theorem idxs_more {p : Nat → Bool} {k : Nat} (h : p k = true) : idxs p (k + 1) = idxs p k ++ [(k : Int)] := by
  simp [idxs, List.range_succ, List.filter_append, h]
def reachAt (xs : List Mail) (f m y : Int) (k : Nat) : Bool := decide (times xs f m k ≤ y)
def askR (xs : List Mail) (f m y : Int) : Bool := askM xs f m && inB y m 9999
def reachR (xs : List Mail) (f m y : Int) : List Int := if askR xs f m y then idxs (reachAt xs f m y) 10 else []
theorem reach_len {xs : List Mail} {f m y : Int} : (reachR xs f m y).length ≤ 10 := by
  unfold reachR
  split
  · exact idxs_len _ _
  · simp
def missAt (xs : List Mail) (f m : Int) (k : Nat) : Bool := match xs[k]? with
  | some x => decide (x.Leave < times xs f m x.From.toNat)
  | none => false
def missR (xs : List Mail) (f m : Int) : List Int := if askM xs f m then idxs (missAt xs f m) xs.length else []
theorem miss_len {xs : List Mail} {f m : Int} {n : Nat} (h : xs.length = n) : (missR xs f m).length ≤ n := by
  unfold missR
  split
  · rw [← h]; exact idxs_len _ _
  · simp
theorem missAt_at {xs : List Mail} {f m : Int} {k : Nat} {x : Mail} (h : xs[k]? = some x) : missAt xs f m k = decide (x.Leave < times xs f m x.From.toNat) := by simp [missAt, h]

set_option maxRecDepth 100000 in
set_option maxHeartbeats 1000000 in
theorem ReachedByI_any (A : Option Addr) (n c : Nat) (xs : List Mail) (f m y : Int) (w : World) (h : MailL w A n xs) :
    Calls Try.prog 14 #[.slice A n c, .int .i64 f, .int .i64 m, .int .i64 y] w (RowPost 3 1 (ints (reachR xs f m y)) (askR xs f m y) w) := by
  rcases chain4 (MailsOk xs) (inB f 0 9) (inB m 0 9999) (inB y m 9999) with h1 | ⟨h1, h2⟩ | ⟨h1, h2, h3⟩ | ⟨h1, h2, h3, h4⟩ | ⟨h1, h2, h3, h4⟩
  iterate 4
    · have ha : askR xs f m y = false := by simp [askR, askM, *]
      have hr : reachR xs f m y = [] := by simp [reachR, ha]
      rw [ha, hr]
      clear ha hr
      go_enter Try.func14, Try.ntmps14
      go_wp2_with (first | (go_at_call 23; refine (isTimetable_any _ _ _ xs _ h).mono ?_; rintro e wa ⟨rfl, he1⟩; have hc1 := he1.cells) | (go_at_call 24; refine (isOffice_any _ _).mono ?_; rintro e w' ⟨rfl, rfl⟩) | (go_at_call 25; refine (isMinute_any _ _).mono ?_; rintro e w' ⟨rfl, rfl⟩) | (go_at_call 33; refine (inRange_any _ _ _ _).mono ?_; rintro e w' ⟨rfl, rfl⟩))
      go_ret2
      exact ⟨none, 0, 0, rfl, own_nil _ _ _ _, he1⟩
  · have ha : askR xs f m y = true := by simp [askR, askM, *]
    have hr : reachR xs f m y = idxs (reachAt xs f m y) 10 := by simp [reachR, ha]
    rw [ha, hr]
    clear ha hr
    obtain ⟨m1, m2⟩ := inB_iff.1 h3
    obtain ⟨y1, y2⟩ := inB_iff.1 h4
    have HOK := Lib.hid h1
    have HF := Lib.hid h2
    have HM := Lib.hid h3
    have HB := Lib.hid (times_bd (f := f) (MailsOk_good h1) m1 m2)
    go_enter Try.func14, Try.ntmps14
    go_wp2_with (first | (go_at_call 23; refine (isTimetable_any _ _ _ xs _ h).mono ?_; rintro e wa ⟨rfl, he1⟩; have hc1 := he1.cells) | (go_at_call 24; refine (isOffice_any _ _).mono ?_; rintro e w' ⟨rfl, rfl⟩) | (go_at_call 25; refine (isMinute_any _ _).mono ?_; rintro e w' ⟨rfl, rfl⟩) | (go_at_call 33; refine (inRange_any _ _ _ _).mono ?_; rintro e w' ⟨rfl, rfl⟩) | (go_at_call 29; refine (earliest_any _ _ _ xs _ _ _ (h.ext he1) HOK.out HF.out HM.out).mono ?_; rintro e we ⟨ge, hge, rfl, oe, he2⟩))
    have hge2 : w.heap.size ≤ ge := by have := he1.size; omega
    have OE := Lib.hid (own_low oe he1.size)
    clear hc1 oe
    go_loopw [10, 37] (fun o i wr => ∃ (k : Nat) (O : Option Addr) (s oc : Nat), k ≤ 10 ∧ s ≤ k ∧ i = .int .i64 k ∧ o = .slice O s oc ∧ wr.ownsRow w.heap.size 3 1 (.slice O s oc) s (ints (idxs (reachAt xs f m y) k)) ∧ Ext w wr ∧ wr.ownsRow w.heap.size 3 1 (.slice (some ⟨ge, 0, none⟩) 10 10) 10 (ints (tlist (negF (times xs f m)))) ∧ Off O ge) (fun _ i _ => 10 - (intOf i).toNat)
    case atStart => exact ⟨0, none, 0, 0, Nat.zero_le _, Nat.le_refl _, rfl, rfl, own_nil _ _ _ _, he1.trans he2, OE.out, Off.nil _⟩
    case round =>
      obtain ⟨k, O, s, oc, hk, hsk, rfl, rfl, ho, he, hoe, hoff⟩ := hrel
      clear OE
      by_cases hlt : k < 10
      · have ck := row_cell hoe hlt
        have HO := Lib.hid ho
        have HOE := Lib.hid hoe
        clear ho hoe
        have hbd := HB.out k
        have hin := negT_in (l := y) (by omega : 0 ≤ times xs f m k) hbd.2 y2
        have HS0 := Lib.hid (idxs_no (p := reachAt xs f m y) (k := k))
        have HS1 := Lib.hid (idxs_more (p := reachAt xs f m y) (k := k))
        unfold negF at ck
        generalize negT (times xs f m k) = u at *
        have C := Lib.hid (inRange_any u 0 y)
        rw [hin] at C
        have hd : reachAt xs f m y k = decide (times xs f m k ≤ y) := rfl
        rw [← hd] at C
        clear hin hd hbd
        cases hq : reachAt xs f m y k
        · have hs := Lib.hid (HS0.out hq)
          rw [hq] at C
          clear hq HS0 HS1
          go_wp2_with (go_at_call 33; refine (C.out _).mono ?_; rintro e w' ⟨rfl, rfl⟩)
          go_roundw
          case rel => exact ⟨k + 1, O, s, oc, by omega, by omega, by go_num, rfl, by rw [hs.out]; exact HO.out, he, HOE.out, hoff⟩
          case measure => simp [intOf]; omega
        · have hs := Lib.hid (HS1.out hq)
          rw [hq] at C
          clear hq HS0 HS1
          go_wp2_with (first | (go_at_call 33; refine (C.out _).mono ?_; rintro e w' ⟨rfl, rfl⟩) | (at_builtin; refine app_int rfl (.tmp 45) (.tmp 47) rfl w.heap.size s oc wr.heap.size O _ (k : Int) rfl rfl (HO.out.alloc _) (new_cell _ _ _ 0 _ rfl) (by omega) (by have := he.size; simp only [World.size_alloc]; omega) ?_; intro O' oc' w' hown' hgrow hoff'; have hge3 : ge < wr.heap.size := (HOE.out.lt _ rfl).2))
          go_roundw
          case rel => exact ⟨k + 1, O', s + 1, oc', by omega, by omega, by go_num, rfl, by rw [hs.out]; exact hown', (he.alloc _).grown hgrow (fun k hk => (HO.out.lt k hk).1), (HOE.out.alloc _).kept hgrow hoff.apart, hoff' ge hoff (by simp only [World.size_alloc]; omega)⟩
          case measure => simp [intOf]; omega
      · obtain rfl : k = 10 := by omega
        go_wp2
        go_ret2
        exact ⟨O, s, oc, rfl, ho, he⟩



end Go.Proofs.Ytmgpdenofkloeaa
