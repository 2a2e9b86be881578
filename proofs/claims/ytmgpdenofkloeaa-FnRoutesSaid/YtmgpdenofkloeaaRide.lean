/- EndOfRoute, IsRoute, WaitsOn. -/
import Derived.Test.YtmgpdenofkloeaaEarl
import Derived.Test.YtmgpdenofkloeaaOpenI
import Derived.IntWalk
namespace Go.Proofs.Ytmgpdenofkloeaa
open Go.RowKit
set_option linter.unusedVariables false
set_option linter.unusedSimpArgs false
attribute [local go_sem] ExtOf.cell

def rideStep (xs : List Mail) (f m v : Int) : Option (Int × Int) := if v < 0 then none else match xs[v.toNat]? with
  | none => none
  | some x => if x.From = f ∧ m ≤ x.Leave then some (x.To, x.Arrive) else none
/-- Where and when a list of indices ends, if it is a route. -/
def ride (xs : List Mail) : Int → Int → List Int → Option (Int × Int)
  | f, m, [] => some (f, m)
  | f, m, v :: r => match rideStep xs f m v with
    | none => none
    | some (a, b) => ride xs a b r
def rA (R : Option (Int × Int)) : Int := (R.map Prod.fst).getD 0
def rB (R : Option (Int × Int)) : Int := (R.map Prod.snd).getD 0
theorem rideStep_out {xs : List Mail} {f m v : Int} {n : Nat} (hn : xs.length = n) (h : inB v 0 ((n : Int) - 1) = false) : rideStep xs f m v = none := by
  have := inB_no.1 h
  unfold rideStep
  split
  · rfl
  · rw [List.getElem?_eq_none (by omega)]
theorem rideStep_in {xs : List Mail} {f m : Int} {j : Nat} {x : Mail} (h : xs[j]? = some x) : rideStep xs f m j = if x.From = f ∧ m ≤ x.Leave then some (x.To, x.Arrive) else none := by
  unfold rideStep
  rw [if_neg (by omega)]
  simp only [Int.toNat_natCast, h]
theorem ride_next {xs : List Mail} {f m v : Int} {r : List Int} {k : Nat} (h : r[k]? = some v) : ride xs f m (r.drop k) = match rideStep xs f m v with
    | none => none
    | some (a, b) => ride xs a b (r.drop (k + 1)) := by
  obtain ⟨hk, e⟩ := List.getElem?_eq_some_iff.1 h
  rw [List.drop_eq_getElem_cons hk, e, ride]
theorem ride_bad {xs : List Mail} {f m v : Int} {r : List Int} {k : Nat} (h : r[k]? = some v) (hs : rideStep xs f m v = none) : ride xs f m (r.drop k) = none := by rw [ride_next h, hs]
theorem ride_good {xs : List Mail} {f m v a b : Int} {r : List Int} {k : Nat} (h : r[k]? = some v) (hs : rideStep xs f m v = some (a, b)) : ride xs f m (r.drop k) = ride xs a b (r.drop (k + 1)) := by rw [ride_next h, hs]
theorem ride_end {xs : List Mail} {f m : Int} {r : List Int} {n : Nat} (h : r.length ≤ n) : ride xs f m (r.drop n) = some (f, m) := by rw [List.drop_eq_nil_of_le h]; rfl
def spentOne (xs : List Mail) (v : Int) : Int := match xs[v.toNat]? with
  | none => 0
  | some x => x.Arrive - x.Leave
/-- The minutes in the mails. -/
def spent (xs : List Mail) (r : List Int) : Int := (r.map (spentOne xs)).sum
theorem spent_succ {xs : List Mail} {r : List Int} {k j : Nat} {x : Mail} (h : r[k]? = some (j : Int)) (hx : xs[j]? = some x) : spent xs (r.take (k + 1)) = spent xs (r.take k) + (x.Arrive - x.Leave) := by
  obtain ⟨hk, e⟩ := List.getElem?_eq_some_iff.1 h
  unfold spent
  rw [List.take_succ_eq_append_getElem hk, List.map_append, List.sum_append, e]
  simp [spentOne, hx]
theorem spentOne_bd {xs : List Mail} (hg : ∀ x ∈ xs, MailGood x = true) (v : Int) : 0 ≤ spentOne xs v ∧ spentOne xs v ≤ 9999 := by
  unfold spentOne
  split
  · omega
  · rename_i x hx
    have := good_all (hg x (List.mem_of_getElem? hx))
    omega
theorem spent_bd {xs : List Mail} (hg : ∀ x ∈ xs, MailGood x = true) : ∀ (r : List Int), 0 ≤ spent xs r ∧ spent xs r ≤ 9999 * r.length
  | [] => by simp [spent]
  | v :: r => by
    have ih := spent_bd hg r
    have h1 := spentOne_bd hg v
    have e : spent xs (v :: r) = spentOne xs v + spent xs r := by simp [spent]
    rw [e]
    simp only [List.length_cons, Int.natCast_add]
    omega
theorem ride_in {xs : List Mail} : ∀ (r : List Int) (f m : Int), ride xs f m r ≠ none → ∀ (k : Nat) (v : Int), r[k]? = some v → ∃ (j : Nat) (x : Mail), v = j ∧ xs[j]? = some x
  | [], f, m, _, k, v, hv => by simp at hv
  | u :: r, f, m, h, k, v, hv => by
    rw [ride] at h
    cases hs : rideStep xs f m u with
    | none => rw [hs] at h; exact absurd rfl h
    | some p =>
      obtain ⟨a, b⟩ := p
      rw [hs] at h
      cases k with
      | zero =>
        simp at hv; subst hv
        unfold rideStep at hs
        split at hs
        · cases hs
        · split at hs
          · cases hs
          · rename_i x hx
            exact ⟨u.toNat, x, by omega, hx⟩
      | succ k => exact ride_in r a b h k v (by simpa using hv)

set_option maxRecDepth 100000 in
set_option maxHeartbeats 1000000 in
theorem endOfRoute_any (A : Option Addr) (n c : Nat) (xs : List Mail) (f m : Int) (B : Option Addr) (rn rc : Nat) (r : List Int) (w : World) (h : MailL w A n xs) (hn : rn ≤ 1048576) (hr : Rd w B rn 1 (ints r)) :
    Calls Try.prog 32 #[.slice A n c, .int .i64 f, .int .i64 m, .slice B rn rc] w fun e w' => e = .returned (.tuple #[.int .i64 (rA (ride xs f m r)), .int .i64 (rB (ride xs f m r)), .bool (ride xs f m r).isSome]) ∧ Ext w w' := by
  have hsm := h.small
  have HL := Lib.hid h.len
  have HRL := Lib.hid (show r.length = rn by have := hr.1; rw [ints_length] at this; omega)
  go_enter Try.func32, Try.ntmps32
  go_wp2
  go_loopw [1, 2, 15] (fun a b i wr => ∃ (f' m' : Int) (k : Nat), a = .int .i64 f' ∧ b = .int .i64 m' ∧ k ≤ rn ∧ i = .int .i64 k ∧ ride xs f m r = ride xs f' m' (r.drop k) ∧ Ext w wr) (fun _ _ i _ => rn - (intOf i).toNat)
  case atStart => exact ⟨f, m, 0, rfl, rfl, Nat.zero_le _, rfl, by simp, Ext.refl _⟩
  case round =>
    obtain ⟨f', m', k, rfl, rfl, hk, rfl, hR, he⟩ := hrel
    have HR := Lib.hid hR
    clear hR
    by_cases hlt : k < rn
    · obtain ⟨b2, off2, v, rfl, hb2, hv, g0⟩ := (hr.ext he).int hlt
      cases hin : inB v 0 ((n : Int) - 1)
      · have hs := Lib.hid (HR.out.trans (ride_bad hv.out (rideStep_out HL.out hin)))
        go_wp2_with (go_at_call 33; refine (inRange_any _ _ _ _).mono ?_; rintro e w' ⟨rfl, rfl⟩)
        go_ret3
        exact ⟨by rw [hs.out]; rfl, he⟩
      · have hin2 := inB_iff.1 hin
        obtain ⟨j, rfl⟩ : ∃ g : Nat, v = g := ⟨v.toNat, by omega⟩
        have hjn : j < n := by omega
        have hj1 : (j : Int) < n := by omega
        obtain ⟨b, off, x, rfl, hb, hx, q0, q1, q2, q3⟩ := (h.ext he).at_ hjn
        have HS := Lib.hid (rideStep_in (f := f') (m := m') hx.out)
        by_cases c1 : x.From = f'
        · have d1 : (x.From != f') = false := by simpa using c1
          have d2 : decide (x.From = f') = true := by simpa using c1
          by_cases c2 : m' ≤ x.Leave
          · have hs := Lib.hid (HR.out.trans (ride_good hv.out (HS.out.trans (if_pos ⟨c1, c2⟩))))
            have d3 : decide (x.Leave < m') = false := by simp; omega
            clear c1 hin2
            go_wp2_with (go_at_call 33; refine (inRange_any _ _ _ _).mono ?_; rintro e w' ⟨rfl, rfl⟩)
            (refine wp_region_ext_lit (by kernel_rfl) (by kernel_rfl) ?_; (repeat (go_big_quiet_step ((fail)))); refine wpQuiet_nil ?_; rintro wq ⟨⟨_, heq⟩, rfl⟩; (try dsimp only))
            go_wp2
            go_roundw
            case rel => exact ⟨x.To, x.Arrive, k + 1, rfl, rfl, by omega, by go_num, hs.out, he.trans heq⟩
            case measure => simp [intOf]; omega
          · have hs := Lib.hid (HR.out.trans (ride_bad hv.out (HS.out.trans (if_neg (fun hh => c2 hh.2)))))
            have d3 : decide (x.Leave < m') = true := by simp; omega
            clear c1 hin2
            go_wp2_with (go_at_call 33; refine (inRange_any _ _ _ _).mono ?_; rintro e w' ⟨rfl, rfl⟩)
            go_ret3
            exact ⟨by rw [hs.out]; rfl, he⟩
        · have d1 : (x.From != f') = true := by simpa using c1
          have d2 : decide (x.From = f') = false := by simpa using c1
          have hs := Lib.hid (HR.out.trans (ride_bad hv.out (HS.out.trans (if_neg (fun hh => c1 hh.1)))))
          clear c1 hin2
          go_wp2_with (go_at_call 33; refine (inRange_any _ _ _ _).mono ?_; rintro e w' ⟨rfl, rfl⟩)
          go_ret3
          exact ⟨by rw [hs.out]; rfl, he⟩
    · obtain rfl : k = rn := by omega
      have hs := Lib.hid (HR.out.trans (ride_end (Nat.le_of_eq HRL.out)))
      go_wp2
      go_ret3
      exact ⟨by rw [hs.out]; rfl, he⟩

set_option maxRecDepth 100000 in
set_option maxHeartbeats 1000000 in
theorem l9End_any (A : Option Addr) (n c : Nat) (xs : List Mail) (f m : Int) (B : Option Addr) (rn rc : Nat) (r : List Int) (w : World) (h : MailL w A n xs) (hn : rn ≤ 1048576) (hr : Rd w B rn 1 (ints r)) :
    Calls Try.prog 37 #[.slice A n c, .int .i64 f, .int .i64 m, .slice B rn rc] w fun e w' => e = .returned (.tuple #[.int .i64 (rA (ride xs f m r)), .int .i64 (rB (ride xs f m r)), .bool (ride xs f m r).isSome]) ∧ Ext w w' := by
  have hsm := h.small
  have HL := Lib.hid h.len
  have HRL := Lib.hid (show r.length = rn by have := hr.1; rw [ints_length] at this; omega)
  go_enter Try.func37, Try.ntmps37
  go_wp2
  go_loopw [1, 2, 11] (fun a b i wr => ∃ (f' m' : Int) (k : Nat), a = .int .i64 f' ∧ b = .int .i64 m' ∧ k ≤ rn ∧ i = .int .i64 k ∧ ride xs f m r = ride xs f' m' (r.drop k) ∧ Ext w wr) (fun _ _ i _ => rn - (intOf i).toNat)
  case atStart => exact ⟨f, m, 0, rfl, rfl, Nat.zero_le _, rfl, by simp, Ext.refl _⟩
  case round =>
    obtain ⟨f', m', k, rfl, rfl, hk, rfl, hR, he⟩ := hrel
    have HR := Lib.hid hR
    clear hR
    by_cases hlt : k < rn
    · obtain ⟨b2, off2, v, rfl, hb2, hv, g0⟩ := (hr.ext he).int hlt
      cases hin : inB v 0 ((n : Int) - 1)
      · have hs := Lib.hid (HR.out.trans (ride_bad hv.out (rideStep_out HL.out hin)))
        have hno := inB_no.1 hin
        by_cases hv0 : v < 0
        · have d0 : decide (v < 0) = true := by simpa using hv0
          go_wp2
          go_ret3
          exact ⟨by rw [hs.out]; rfl, he⟩
        · have d0 : decide (v < 0) = false := by simpa using hv0
          have d1 : decide ((n : Int) ≤ v) = true := by simp; omega
          go_wp2
          go_ret3
          exact ⟨by rw [hs.out]; rfl, he⟩
      · have hin2 := inB_iff.1 hin
        obtain ⟨j, rfl⟩ : ∃ g : Nat, v = g := ⟨v.toNat, by omega⟩
        have hjn : j < n := by omega
        have hj1 : (j : Int) < n := by omega
        obtain ⟨b, off, x, rfl, hb, hx, q0, q1, q2, q3⟩ := (h.ext he).at_ hjn
        have HS := Lib.hid (rideStep_in (f := f') (m := m') hx.out)
        have d4 : decide ((j : Int) < 0) = false := by simp; try omega
        have d5 : decide ((n : Int) ≤ (j : Int)) = false := by simp; try omega
        have d6 : decide (n ≤ j) = false := by simp; try omega
        by_cases c1 : x.From = f'
        · have d1 : (x.From != f') = false := by simpa using c1
          have d2 : decide (x.From = f') = true := by simpa using c1
          by_cases c2 : m' ≤ x.Leave
          · have hs := Lib.hid (HR.out.trans (ride_good hv.out (HS.out.trans (if_pos ⟨c1, c2⟩))))
            have d3 : decide (x.Leave < m') = false := by simp; omega
            clear c1 hin2
            go_wp2
            go_roundw
            case rel => exact ⟨x.To, x.Arrive, k + 1, rfl, rfl, by omega, by go_num, hs.out, he.alloc _⟩
            case measure => simp [intOf]; omega
          · have hs := Lib.hid (HR.out.trans (ride_bad hv.out (HS.out.trans (if_neg (fun hh => c2 hh.2)))))
            have d3 : decide (x.Leave < m') = true := by simp; omega
            clear c1 hin2
            go_wp2
            go_ret3
            exact ⟨by rw [hs.out]; rfl, he.alloc _⟩
        · have d1 : (x.From != f') = true := by simpa using c1
          have d2 : decide (x.From = f') = false := by simpa using c1
          have hs := Lib.hid (HR.out.trans (ride_bad hv.out (HS.out.trans (if_neg (fun hh => c1 hh.1)))))
          clear c1 hin2
          go_wp2
          go_ret3
          exact ⟨by rw [hs.out]; rfl, he.alloc _⟩
    · obtain rfl : k = rn := by omega
      have hs := Lib.hid (HR.out.trans (ride_end (Nat.le_of_eq HRL.out)))
      go_wp2
      go_ret3
      exact ⟨by rw [hs.out]; rfl, he⟩

def rideR (xs : List Mail) (f m : Int) (r : List Int) : Option (Int × Int) := if askM xs f m then ride xs f m r else none
theorem rideR_no {xs : List Mail} {f m : Int} {r : List Int} (h : askM xs f m = false) : rideR xs f m r = none := by simp [rideR, h]
theorem rideR_yes {xs : List Mail} {f m : Int} {r : List Int} (h : askM xs f m = true) : rideR xs f m r = ride xs f m r := by simp [rideR, h]
def isRt (xs : List Mail) (f m : Int) (r : List Int) : Bool := askM xs f m && decide (r.length ≤ 20)

set_option maxRecDepth 100000 in
set_option maxHeartbeats 1000000 in
theorem EndOfRouteI_any (A : Option Addr) (n c : Nat) (xs : List Mail) (f m : Int) (B : Option Addr) (rn rc : Nat) (r : List Int) (w : World) (h : MailL w A n xs) (hn : rn ≤ 1048576) (hr : Rd w B rn 1 (ints r)) :
    Calls Try.prog 13 #[.slice A n c, .int .i64 f, .int .i64 m, .slice B rn rc] w fun e w' => e = .returned (.tuple #[.int .i64 (rA (rideR xs f m r)), .int .i64 (rB (rideR xs f m r)), .bool (rideR xs f m r).isSome]) ∧ Ext w w' := by
  have C := Lib.hid (fun wx (he : Ext w wx) => endOfRoute_any A n c xs f m B rn rc r wx (h.ext he) hn (hr.ext he))
  rcases chain3 (MailsOk xs) (inB f 0 9) (inB m 0 9999) with h1 | ⟨h1, h2⟩ | ⟨h1, h2, h3⟩ | ⟨h1, h2, h3⟩
  iterate 3
    · rw [rideR_no (show askM xs f m = false by simp [askM, *])]
      go_enter Try.func13, Try.ntmps13
      go_wp2_with (first | (go_at_call 23; refine (isTimetable_any _ _ _ xs _ h).mono ?_; rintro e wa ⟨rfl, he1⟩; have hc1 := he1.cells) | (go_at_call 24; refine (isOffice_any _ _).mono ?_; rintro e w' ⟨rfl, rfl⟩) | (go_at_call 25; refine (isMinute_any _ _).mono ?_; rintro e w' ⟨rfl, rfl⟩) | (go_at_call 32; refine (C.out _ he1).mono ?_; rintro e we ⟨rfl, he2⟩))
      go_ret3
      exact ⟨rfl, he1⟩
  · rw [rideR_yes (show askM xs f m = true by simp [askM, *])]
    generalize ride xs f m r = R at *
    go_enter Try.func13, Try.ntmps13
    go_wp2_with (first | (go_at_call 23; refine (isTimetable_any _ _ _ xs _ h).mono ?_; rintro e wa ⟨rfl, he1⟩; have hc1 := he1.cells) | (go_at_call 24; refine (isOffice_any _ _).mono ?_; rintro e w' ⟨rfl, rfl⟩) | (go_at_call 25; refine (isMinute_any _ _).mono ?_; rintro e w' ⟨rfl, rfl⟩) | (go_at_call 32; refine (C.out _ he1).mono ?_; rintro e we ⟨rfl, he2⟩))
    go_ret3
    exact ⟨rfl, he1.trans he2⟩

set_option maxRecDepth 100000 in
set_option maxHeartbeats 1000000 in
theorem EndOfRouteS_any (A : Option Addr) (n c : Nat) (xs : List Mail) (f m : Int) (B : Option Addr) (rn rc : Nat) (r : List Int) (w : World) (h : MailL w A n xs) (hn : rn ≤ 1048576) (hr : Rd w B rn 1 (ints r)) :
    Calls Try.prog 19 #[.slice A n c, .int .i64 f, .int .i64 m, .slice B rn rc] w fun e w' => e = .returned (.tuple #[.int .i64 (rA (rideR xs f m r)), .int .i64 (rB (rideR xs f m r)), .bool (rideR xs f m r).isSome]) ∧ Ext w w' := by
  have C := Lib.hid (fun wx (he : Ext w wx) => l9End_any A n c xs f m B rn rc r wx (h.ext he) hn (hr.ext he))
  cases h1 : askM xs f m
  · rw [rideR_no h1]
    go_enter Try.func19, Try.ntmps19
    go_wp2_with (first | (go_at_call 30; refine (l9Asked_any _ _ _ xs _ _ _ h).mono ?_; rintro e wa ⟨rfl, he1⟩; have hc1 := he1.cells) | (go_at_call 37; refine (C.out _ he1).mono ?_; rintro e we ⟨rfl, he2⟩))
    go_ret3
    exact ⟨rfl, he1⟩
  · rw [rideR_yes h1]
    generalize ride xs f m r = R at *
    go_enter Try.func19, Try.ntmps19
    go_wp2_with (first | (go_at_call 30; refine (l9Asked_any _ _ _ xs _ _ _ h).mono ?_; rintro e wa ⟨rfl, he1⟩; have hc1 := he1.cells) | (go_at_call 37; refine (C.out _ he1).mono ?_; rintro e we ⟨rfl, he2⟩))
    go_ret3
    exact ⟨rfl, he1.trans he2⟩

set_option maxRecDepth 100000 in
set_option maxHeartbeats 1000000 in
theorem IsRouteI_any (A : Option Addr) (n c : Nat) (xs : List Mail) (f m : Int) (B : Option Addr) (rn rc : Nat) (r : List Int) (w : World) (h : MailL w A n xs) (hn : rn ≤ 1048576) (hr : Rd w B rn 1 (ints r)) :
    Calls Try.prog 17 #[.slice A n c, .int .i64 f, .int .i64 m, .slice B rn rc] w fun e w' => e = .returned (.tuple #[.bool (isRt xs f m r && (ride xs f m r).isSome), .bool (isRt xs f m r)]) ∧ Ext w w' := by
  have C := Lib.hid (fun wx (he : Ext w wx) => endOfRoute_any A n c xs f m B rn rc r wx (h.ext he) hn (hr.ext he))
  have hl : r.length = rn := by have := hr.1; rw [ints_length] at this; omega
  rcases chain4 (MailsOk xs) (inB f 0 9) (inB m 0 9999) (decide (rn ≤ 20)) with h1 | ⟨h1, h2⟩ | ⟨h1, h2, h3⟩ | ⟨h1, h2, h3, h4⟩ | ⟨h1, h2, h3, h4⟩
  iterate 4
    · rw [show isRt xs f m r = false by simp only [isRt, askM, hl, *]; simp]
      (first | (have d1 : decide ((20 : Int) < rn) = true := by simp at h4; simp; omega) | skip)
      (first | (have d2 : decide (20 < rn) = true := by simp at h4; simp; omega) | skip)
      clear hl
      go_enter Try.func17, Try.ntmps17
      go_wp2_with (first | (go_at_call 23; refine (isTimetable_any _ _ _ xs _ h).mono ?_; rintro e wa ⟨rfl, he1⟩; have hc1 := he1.cells) | (go_at_call 24; refine (isOffice_any _ _).mono ?_; rintro e w' ⟨rfl, rfl⟩) | (go_at_call 25; refine (isMinute_any _ _).mono ?_; rintro e w' ⟨rfl, rfl⟩) | (go_at_call 32; refine (C.out _ he1).mono ?_; rintro e we ⟨rfl, he2⟩))
      go_ret2
      exact ⟨rfl, he1⟩
  · rw [show isRt xs f m r = true by simp only [isRt, askM, hl, *]; simp]
    have d1 : decide ((20 : Int) < rn) = false := by simp at h4; simp; omega
    have d2 : decide (20 < rn) = false := by simp at h4; simp; omega
    clear hl
    generalize ride xs f m r = R at *
    go_enter Try.func17, Try.ntmps17
    go_wp2_with (first | (go_at_call 23; refine (isTimetable_any _ _ _ xs _ h).mono ?_; rintro e wa ⟨rfl, he1⟩; have hc1 := he1.cells) | (go_at_call 24; refine (isOffice_any _ _).mono ?_; rintro e w' ⟨rfl, rfl⟩) | (go_at_call 25; refine (isMinute_any _ _).mono ?_; rintro e w' ⟨rfl, rfl⟩) | (go_at_call 32; refine (C.out _ he1).mono ?_; rintro e we ⟨rfl, he2⟩))
    go_ret2
    exact ⟨by simp, he1.trans he2⟩

set_option maxRecDepth 100000 in
set_option maxHeartbeats 1000000 in
theorem IsRouteS_any (A : Option Addr) (n c : Nat) (xs : List Mail) (f m : Int) (B : Option Addr) (rn rc : Nat) (r : List Int) (w : World) (h : MailL w A n xs) (hn : rn ≤ 1048576) (hr : Rd w B rn 1 (ints r)) :
    Calls Try.prog 18 #[.slice A n c, .int .i64 f, .int .i64 m, .slice B rn rc] w fun e w' => e = .returned (.tuple #[.bool (isRt xs f m r && (ride xs f m r).isSome), .bool (isRt xs f m r)]) ∧ Ext w w' := by
  have C := Lib.hid (fun wx (he : Ext w wx) => l9End_any A n c xs f m B rn rc r wx (h.ext he) hn (hr.ext he))
  have hl : r.length = rn := by have := hr.1; rw [ints_length] at this; omega
  rcases chain2 (askM xs f m) (decide (rn ≤ 20)) with h1 | ⟨h1, h4⟩ | ⟨h1, h4⟩
  iterate 2
    · rw [show isRt xs f m r = false by simp only [isRt, hl, *]; simp]
      (first | (have d1 : decide ((20 : Int) < rn) = true := by simp at h4; simp; omega) | skip)
      (first | (have d2 : decide (20 < rn) = true := by simp at h4; simp; omega) | skip)
      clear hl
      go_enter Try.func18, Try.ntmps18
      go_wp2_with (first | (go_at_call 30; refine (l9Asked_any _ _ _ xs _ _ _ h).mono ?_; rintro e wa ⟨rfl, he1⟩; have hc1 := he1.cells) | (go_at_call 37; refine (C.out _ he1).mono ?_; rintro e we ⟨rfl, he2⟩))
      go_ret2
      exact ⟨rfl, he1⟩
  · rw [show isRt xs f m r = true by simp only [isRt, hl, *]; simp]
    have d1 : decide ((20 : Int) < rn) = false := by simp at h4; simp; omega
    have d2 : decide (20 < rn) = false := by simp at h4; simp; omega
    clear hl
    generalize ride xs f m r = R at *
    go_enter Try.func18, Try.ntmps18
    go_wp2_with (first | (go_at_call 30; refine (l9Asked_any _ _ _ xs _ _ _ h).mono ?_; rintro e wa ⟨rfl, he1⟩; have hc1 := he1.cells) | (go_at_call 37; refine (C.out _ he1).mono ?_; rintro e we ⟨rfl, he2⟩))
    go_ret2
    exact ⟨by simp, he1.trans he2⟩

def waitsR (xs : List Mail) (f m : Int) (r : List Int) : Int := if (rideR xs f m r).isSome then rB (rideR xs f m r) - m - spent xs r else 0
theorem rideR_some {xs : List Mail} {f m : Int} {r : List Int} (h : (rideR xs f m r).isSome = true) : askM xs f m = true ∧ rideR xs f m r = ride xs f m r ∧ ride xs f m r ≠ none := by
  cases ha : askM xs f m
  · rw [rideR_no ha] at h; cases h
  · refine ⟨rfl, rideR_yes ha, ?_⟩
    rw [rideR_yes ha] at h
    intro e; rw [e] at h; cases h
theorem ride_bd {xs : List Mail} (hg : ∀ x ∈ xs, MailGood x = true) : ∀ (r : List Int) (f m a b : Int), 0 ≤ m → m ≤ 9999 → ride xs f m r = some (a, b) → m + spent xs r ≤ b ∧ b ≤ 9999
  | [], f, m, a, b, h1, h2, h => by
    simp only [ride, Option.some.injEq, Prod.mk.injEq] at h
    simp [spent]; omega
  | v :: r, f, m, a, b, h1, h2, h => by
    rw [ride] at h
    have e : spent xs (v :: r) = spentOne xs v + spent xs r := by simp [spent]
    unfold rideStep at h
    by_cases hv : v < 0
    · rw [if_pos hv] at h; cases h
    · rw [if_neg hv] at h
      cases hx : xs[v.toNat]? with
      | none => rw [hx] at h; cases h
      | some x =>
        rw [hx] at h
        have hgx := good_all (hg x (List.mem_of_getElem? hx))
        by_cases hc : x.From = f ∧ m ≤ x.Leave
        · simp only [if_pos hc] at h
          have := ride_bd hg r x.To x.Arrive a b (by omega) (by omega) h
          have e2 : spentOne xs v = x.Arrive - x.Leave := by simp [spentOne, hx]
          omega
        · simp only [if_neg hc] at h; cases h

set_option maxRecDepth 100000 in
set_option maxHeartbeats 1000000 in
theorem WaitsOnI_any (A : Option Addr) (n c : Nat) (xs : List Mail) (f m : Int) (B : Option Addr) (rn rc : Nat) (r : List Int) (w : World) (h : MailL w A n xs) (hn : rn ≤ 1048576) (hr : Rd w B rn 1 (ints r)) :
    Calls Try.prog 20 #[.slice A n c, .int .i64 f, .int .i64 m, .slice B rn rc] w fun e w' => e = .returned (.tuple #[.int .i64 (waitsR xs f m r), .bool (rideR xs f m r).isSome]) ∧ Ext w w' := by
  have C := Lib.hid (fun wx (he : Ext w wx) => endOfRoute_any A n c xs f m B rn rc r wx (h.ext he) hn (hr.ext he))
  rcases chain3 (MailsOk xs) (inB f 0 9) (inB m 0 9999) with h1 | ⟨h1, h2⟩ | ⟨h1, h2, h3⟩ | ⟨h1, h2, h3⟩
  iterate 3
    · have hno := rideR_no (r := r) (show askM xs f m = false by simp [askM, *])
      rw [show waitsR xs f m r = 0 by simp [waitsR, hno], hno]
      clear hno
      go_enter Try.func20, Try.ntmps20
      go_wp2_with (first | (go_at_call 23; refine (isTimetable_any _ _ _ xs _ h).mono ?_; rintro e wa ⟨rfl, he1⟩; have hc1 := he1.cells) | (go_at_call 24; refine (isOffice_any _ _).mono ?_; rintro e w' ⟨rfl, rfl⟩) | (go_at_call 25; refine (isMinute_any _ _).mono ?_; rintro e w' ⟨rfl, rfl⟩) | (go_at_call 32; refine (C.out _ he1).mono ?_; rintro e we ⟨rfl, he2⟩))
      go_ret2
      exact ⟨rfl, he1⟩
  · have hys := rideR_yes (r := r) (show askM xs f m = true by simp [askM, *])
    have HG := Lib.hid (MailsOk_good h1)
    obtain ⟨m1, m2⟩ := inB_iff.1 h3
    cases hR : ride xs f m r with
    | none =>
      rw [hR] at hys C
      rw [show waitsR xs f m r = 0 by simp [waitsR, hys], hys]
      clear hys hR
      go_enter Try.func20, Try.ntmps20
      go_wp2_with (first | (go_at_call 23; refine (isTimetable_any _ _ _ xs _ h).mono ?_; rintro e wa ⟨rfl, he1⟩; have hc1 := he1.cells) | (go_at_call 24; refine (isOffice_any _ _).mono ?_; rintro e w' ⟨rfl, rfl⟩) | (go_at_call 25; refine (isMinute_any _ _).mono ?_; rintro e w' ⟨rfl, rfl⟩) | (go_at_call 32; refine (C.out _ he1).mono ?_; rintro e we ⟨rfl, he2⟩))
      go_ret2
      exact ⟨rfl, he1.trans he2⟩
    | some p =>
      obtain ⟨a, b⟩ := p
      rw [hR] at hys C
      rw [show waitsR xs f m r = b - m - spent xs r by simp [waitsR, hys, rB], hys]
      have hbd := ride_bd HG.out r f m a b m1 m2 hR
      have hsp := spent_bd HG.out r
      have hb0 : m ≤ b ∧ b ≤ 9999 := by omega
      have HIN := Lib.hid (ride_in r f m (by rw [hR]; simp))
      have hl : r.length = rn := by have := hr.1; rw [ints_length] at this; omega
      have HL := Lib.hid hl
      have hsm := h.small
      clear hys hR hl
      simp only [rA, rB, Option.map_some, Option.getD_some, Option.isSome_some] at C
      go_enter Try.func20, Try.ntmps20
      go_wp2_with (first | (go_at_call 23; refine (isTimetable_any _ _ _ xs _ h).mono ?_; rintro e wa ⟨rfl, he1⟩; have hc1 := he1.cells) | (go_at_call 24; refine (isOffice_any _ _).mono ?_; rintro e w' ⟨rfl, rfl⟩) | (go_at_call 25; refine (isMinute_any _ _).mono ?_; rintro e w' ⟨rfl, rfl⟩) | (go_at_call 32; refine (C.out _ he1).mono ?_; rintro e we ⟨rfl, he2⟩))
      clear hc1
      go_loopw [13, 45] (fun s i wr => ∃ k : Nat, k ≤ rn ∧ i = .int .i64 k ∧ s = .int .i64 (b - m - spent xs (r.take k)) ∧ Ext w wr) (fun _ i _ => rn - (intOf i).toNat)
      case atStart => exact ⟨0, Nat.zero_le _, rfl, by simp [spent], he1.trans he2⟩
      case round =>
        obtain ⟨k, hk, rfl, rfl, he⟩ := hrel
        have hst := spent_bd HG.out (r.take k)
        have hlt0 : (r.take k).length ≤ k := List.length_take_le _ _
        by_cases hlt : k < rn
        · obtain ⟨b2, off2, v, rfl, hb2, hv, g0⟩ := (hr.ext he).int hlt
          obtain ⟨j, x0, ev, hj0⟩ := HIN.out k v hv.out
          subst ev
          have hjn : j < n := by have := (List.getElem?_eq_some_iff.1 hj0).1; have := h.len; omega
          have hj1 : (j : Int) < n := by omega
          clear hj0
          obtain ⟨b1, off, x, rfl, hb, hx, q0, q1, q2, q3⟩ := (h.ext he).at_ hjn
          have hgx := good_all (HG.out x (List.mem_of_getElem? hx.out))
          have hs := Lib.hid (spent_succ hv.out hx.out)
          generalize hS : spent xs (r.take k) = S at *
          have HS := Lib.hid hS
          clear hS hbd
          obtain ⟨_, _, _, ⟨z1, z2⟩, z3, z4⟩ := hgx
          have y1 : 0 ≤ S := hst.1
          have y2 : S ≤ 10484710000 := by have := hst.2; omega
          clear hst hlt0 hsp
          have e1 : IntKind.i64.wrap (x.Arrive - x.Leave) = x.Arrive - x.Leave := IntWalk.i64_in _ (by omega)
          have e2 : IntKind.i64.wrap (b - m - S - (x.Arrive - x.Leave)) = b - m - S - (x.Arrive - x.Leave) := IntWalk.i64_in _ (by omega)
          go_wp2
          (refine wp_region_ext_lit (by kernel_rfl) (by kernel_rfl) ?_; (repeat (go_big_quiet_step ((fail)))); refine wpQuiet_nil ?_; rintro wq ⟨⟨_, heq⟩, rfl⟩; (try dsimp only))
          go_wp2
          go_roundw
          case rel => exact ⟨k + 1, by omega, by go_num, by rw [hs.out]; congr 1; omega, he.trans heq⟩
          case measure => simp [intOf]; omega
        · obtain rfl : k = rn := by omega
          have ht := Lib.hid (List.take_of_length_le (Nat.le_of_eq HL.out))
          go_wp2
          go_ret2
          exact ⟨by rw [ht.out]; rfl, he⟩

set_option maxRecDepth 100000 in
set_option maxHeartbeats 1000000 in
theorem WaitsOnS_any (A : Option Addr) (n c : Nat) (xs : List Mail) (f m : Int) (B : Option Addr) (rn rc : Nat) (r : List Int) (w : World) (h : MailL w A n xs) (hn : rn ≤ 1048576) (hr : Rd w B rn 1 (ints r)) :
    Calls Try.prog 21 #[.slice A n c, .int .i64 f, .int .i64 m, .slice B rn rc] w fun e w' => e = .returned (.tuple #[.int .i64 (waitsR xs f m r), .bool (rideR xs f m r).isSome]) ∧ Ext w w' := by
  have C := Lib.hid (fun wx (he : Ext w wx) => EndOfRouteS_any A n c xs f m B rn rc r wx (h.ext he) hn (hr.ext he))
  cases hok : (rideR xs f m r).isSome
  · have hno : rideR xs f m r = none := by simpa using hok
    rw [show waitsR xs f m r = 0 by simp [waitsR, hno]]
    rw [hno] at C
    clear hno hok
    go_enter Try.func21, Try.ntmps21
    go_wp2_with (go_at_call 19; refine (C.out _ (Ext.refl _)).mono ?_; rintro e we ⟨rfl, he1⟩)
    go_ret2
    exact ⟨rfl, he1⟩
  · obtain ⟨ha, hys, hne⟩ := rideR_some hok
    simp only [askM, Bool.and_eq_true] at ha
    obtain ⟨h1, h2, h3⟩ := ha
    have HG := Lib.hid (MailsOk_good h1)
    obtain ⟨m1, m2⟩ := inB_iff.1 h3
    cases hR : ride xs f m r with
    | none => exact absurd hR hne
    | some p =>
      obtain ⟨a, b⟩ := p
      rw [hys, hR] at C
      rw [show waitsR xs f m r = b - m - spent xs r by simp [waitsR, hys, rB, hR]]
      have hbd := ride_bd HG.out r f m a b m1 m2 hR
      have hsp := spent_bd HG.out r
      have hb0 : m ≤ b ∧ b ≤ 9999 := by omega
      have HIN := Lib.hid (ride_in r f m (by rw [hR]; simp))
      have hl : r.length = rn := by have := hr.1; rw [ints_length] at this; omega
      have HL := Lib.hid hl
      have hsm := h.small
      clear hys hR hl hne hok h1 h2 h3
      simp only [rA, rB, Option.map_some, Option.getD_some, Option.isSome_some] at C
      go_enter Try.func21, Try.ntmps21
      go_wp2_with (go_at_call 19; refine (C.out _ (Ext.refl _)).mono ?_; rintro e we ⟨rfl, he1⟩)
      go_loopw [13, 14] (fun s i wr => ∃ k : Nat, k ≤ rn ∧ i = .int .i64 k ∧ s = .int .i64 (b - m - spent xs (r.take k)) ∧ Ext w wr) (fun _ i _ => rn - (intOf i).toNat)
      case atStart => exact ⟨0, Nat.zero_le _, rfl, by simp [spent], he1⟩
      case round =>
        obtain ⟨k, hk, rfl, rfl, he⟩ := hrel
        have hst := spent_bd HG.out (r.take k)
        have hlt0 : (r.take k).length ≤ k := List.length_take_le _ _
        by_cases hlt : k < rn
        · obtain ⟨b2, off2, v, rfl, hb2, hv, g0⟩ := (hr.ext he).int hlt
          obtain ⟨j, x0, ev, hj0⟩ := HIN.out k v hv.out
          subst ev
          have hjn : j < n := by have := (List.getElem?_eq_some_iff.1 hj0).1; have := h.len; omega
          have hj1 : (j : Int) < n := by omega
          clear hj0
          obtain ⟨b1, off, x, rfl, hb, hx, q0, q1, q2, q3⟩ := (h.ext he).at_ hjn
          have hgx := good_all (HG.out x (List.mem_of_getElem? hx.out))
          have hs := Lib.hid (spent_succ hv.out hx.out)
          generalize hS : spent xs (r.take k) = S at *
          have HS := Lib.hid hS
          clear hS hbd
          obtain ⟨_, _, _, ⟨z1, z2⟩, z3, z4⟩ := hgx
          have y1 : 0 ≤ S := hst.1
          have y2 : S ≤ 10484710000 := by have := hst.2; omega
          clear hst hlt0 hsp
          have e1 : IntKind.i64.wrap (b - m - S - x.Arrive) = b - m - S - x.Arrive := IntWalk.i64_in _ (by omega)
          have e2 : IntKind.i64.wrap (b - m - S - x.Arrive + x.Leave) = b - m - S - x.Arrive + x.Leave := IntWalk.i64_in _ (by omega)
          go_wp2
          (refine wp_region_ext_lit (by kernel_rfl) (by kernel_rfl) ?_; (repeat (go_big_quiet_step ((fail)))); refine wpQuiet_nil ?_; rintro wq ⟨⟨_, heq⟩, rfl⟩; (try dsimp only))
          go_wp2
          go_roundw
          case rel => exact ⟨k + 1, by omega, by go_num, by rw [hs.out]; congr 1; omega, he.trans heq⟩
          case measure => simp [intOf]; omega
        · obtain rfl : k = rn := by omega
          have ht := Lib.hid (List.take_of_length_le (Nat.le_of_eq HL.out))
          go_wp2
          go_ret2
          exact ⟨by rw [ht.out]; rfl, he⟩
end Go.Proofs.Ytmgpdenofkloeaa
