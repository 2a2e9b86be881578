/- RaiseRate: the plain law; slices.IndexFunc at the asked rate. -/
import Derived.Test.YtkganlojknhajaaRateI
import Derived.Test.YtkganlojknhajaaInjRate
import Derived.Test.YtkganlojknhajaaIdx
namespace Go.Proofs.Ytkganlojknhajaa
open Go.RowKit
set_option linter.unusedVariables false
set_option linter.unusedSimpArgs false
attribute [local go_sem] ExtOf.cell

def hitR (z g d : Int) (r : Rate) : Bool := (r.Zone == z) && ((r.Grams == g) && (decide (r.From < d) && decide (d ≤ r.Until)))
theorem hitR_iff {z g d : Int} {r : Rate} : hitR z g d r = true ↔ r.Zone = z ∧ r.Grams = g ∧ r.From < d ∧ d ≤ r.Until := by simp [hitR]
def oldR (d : Int) (r : Rate) : Rate := ⟨r.Zone, r.Grams, r.From, d - 1, r.Cents⟩
def newR (d c : Int) (r : Rate) : Rate := ⟨r.Zone, r.Grams, d, r.Until, c⟩
def raiseL (xs : List Rate) (i : Nat) (r : Rate) (d c : Int) : List Rate := xs.take i ++ oldR d r :: newR d c r :: xs.drop (i + 1)
def askA (xs : List Rate) (d c : Int) : Bool := RatesOk xs && (inB d 0 4000 && inB c 1 9999)
def raiseAt (xs : List Rate) (i : Nat) (r : Rate) (d c : Int) : Option (List Rate) := if r.Cents = c then none else if RatesOk (raiseL xs i r d c) then some (raiseL xs i r d c) else none
def raiseO (xs : List Rate) (z g d c : Int) : Option (List Rate) := if askA xs d c then match xs.findIdx? (hitR z g d) with
    | none => none
    | some i => match xs[i]? with
      | none => none
      | some r => raiseAt xs i r d c
  else none
theorem raise_ask {xs : List Rate} {z g d c : Int} (h : askA xs d c = false) : raiseO xs z g d c = none := by unfold raiseO; rw [h]; rfl
theorem firstAt_two {α : Type} (p : α → Bool) (xs : List α) : (firstAt p xs = -1 ∧ noneTo p xs xs.length) ∨ ∃ (k : Nat) (x : α), k < xs.length ∧ firstAt p xs = k ∧ xs[k]? = some x ∧ p x = true ∧ noneTo p xs k := by
  unfold firstAt
  cases h : xs.findIdx? p with
  | none =>
    rw [List.findIdx?_eq_none_iff] at h
    exact .inl ⟨rfl, fun x hx => h x (List.mem_of_mem_take hx)⟩
  | some i =>
    obtain ⟨hi, hp, hn⟩ := List.findIdx?_eq_some_iff_getElem.1 h
    refine .inr ⟨i, xs[i], hi, rfl, List.getElem?_eq_getElem hi, hp, fun x hx => ?_⟩
    obtain ⟨j, hj, rfl⟩ := List.mem_take_iff_getElem.1 hx
    have := hn j (by omega)
    simpa using this
theorem raise_none {xs : List Rate} {z g d c : Int} (h : noneTo (hitR z g d) xs xs.length) : raiseO xs z g d c = none := by
  unfold raiseO
  have : xs.findIdx? (hitR z g d) = none := by
    rw [List.findIdx?_eq_none_iff]
    intro x hx
    exact h x (by rw [List.take_of_length_le (Nat.le_refl _)]; exact hx)
  rw [this]
  split <;> rfl
theorem raise_some {xs : List Rate} {z g d c : Int} {k : Nat} {r : Rate} (ha : askA xs d c = true) (hn : noneTo (hitR z g d) xs k) (hx : xs[k]? = some r) (hp : hitR z g d r = true) : raiseO xs z g d c = raiseAt xs k r d c := by
  obtain ⟨hk, ex⟩ := List.getElem?_eq_some_iff.1 hx
  have : xs.findIdx? (hitR z g d) = some k := by
    rw [List.findIdx?_eq_some_iff_getElem]
    refine ⟨hk, by rw [ex]; exact hp, fun j hj => ?_⟩
    have := hn xs[j] (by rw [List.mem_take_iff_getElem]; exact ⟨j, by omega, rfl⟩)
    simp [this]
  unfold raiseO
  rw [if_pos ha, this]
  simp only [hx]
theorem raise_bad {xs : List Rate} {z g d c : Int} (h : RatesOk xs = true) (hb : ¬ (inB z 0 9 = true ∧ inB g 1 2000 = true)) : raiseO xs z g d c = none := by
  rcases firstAt_two (hitR z g d) xs with ⟨_, hn⟩ | ⟨k, r, _, _, hx, hp, _⟩
  · exact raise_none hn
  · exfalso
    obtain ⟨rfl, rfl, _⟩ := hitR_iff.1 hp
    have hg := RatesOk_good h r (List.mem_of_getElem? hx)
    have h2 : rtOk r.Zone r.Grams r.From r.Until r.Cents = true := hg
    simp only [rtOk, Bool.and_eq_true] at h2
    exact hb ⟨h2.1.1.1.1, h2.1.1.1.2⟩
theorem raiseL_len {xs : List Rate} {i : Nat} {r : Rate} {d c : Int} (hi : i < xs.length) : (raiseL xs i r d c).length = xs.length + 1 := by
  simp [raiseL, List.length_take]; omega
theorem raiseL_mem {xs : List Rate} {i : Nat} {r x : Rate} {d c : Int} (h : x ∈ raiseL xs i r d c) : x ∈ xs ∨ x = oldR d r ∨ x = newR d c r := by
  unfold raiseL at h
  rcases List.mem_append.1 h with h | h
  · exact .inl (List.mem_of_mem_take h)
  · rcases List.mem_cons.1 h with h | h
    · exact .inr (.inl h)
    · rcases List.mem_cons.1 h with h | h
      · exact .inr (.inr h)
      · exact .inl (List.mem_of_mem_drop h)
/-- The inserted list, with the old one's last day set. -/
theorem raiseL_set {xs : List Rate} {i : Nat} {r : Rate} {d c : Int} (hx : xs[i]? = some r) :
    ((xs.take (i + 1) ++ newR d c r :: xs.drop (i + 1)).flatMap Rate.cs).set (i * 5 + 3) (.int .i64 (d - 1)) = (raiseL xs i r d c).flatMap Rate.cs := by
  obtain ⟨hi, rfl⟩ := List.getElem?_eq_some_iff.1 hx
  have l1 : ((xs.take i).flatMap Rate.cs).length = i * 5 := by rw [flat_length Rate.cs 5 Rate.len, List.length_take, Nat.min_eq_left (by omega)]
  rw [List.take_succ_eq_append_getElem hi, List.append_assoc, List.flatMap_append, List.set_append_right _ _ (by omega), l1, Nat.add_sub_cancel_left, raiseL, List.flatMap_append (xs := List.take i xs)]
  rfl
theorem raiseO_len {xs : List Rate} {z g d c : Int} : ((raiseO xs z g d c).getD []).length ≤ 16 := by
  unfold raiseO
  split
  · split
    · simp
    · split
      · simp
      · unfold raiseAt
        split
        · simp
        · split
          · rename_i h
            simp only [RatesOk, Bool.and_eq_true, decide_eq_true_eq] at h
            simpa using h.2
          · simp
  · simp
theorem raise_wf {xs : List Rate} {i : Nat} {r : Rate} {d c : Int} (hw : ∀ x ∈ xs, x.Wf) (hx : xs[i]? = some r) (h : inB d 0 4000 = true) (hc : inB c 1 9999 = true) : ∀ x ∈ raiseL xs i r d c, x.Wf := by
  intro x hm
  have hr := hw r (List.mem_of_getElem? hx)
  obtain ⟨h1, h2⟩ := inB_iff.1 h
  obtain ⟨c1, c2⟩ := inB_iff.1 hc
  have wi : ∀ a : Int, -10 ≤ a → a ≤ 10000 → (Lit.int .i64 a).wf = true := fun a ha hb => by
    have e1 : IntKind.i64.min = -9223372036854775808 := rfl
    have e2 : IntKind.i64.max = 9223372036854775807 := rfl
    simp [Lit.wf, e1, e2]; omega
  rcases raiseL_mem hm with hm | rfl | rfl
  · exact hw x hm
  · exact ⟨hr.1, hr.2.1, hr.2.2.1, wi _ (by show -10 ≤ d - 1; omega) (by show d - 1 ≤ 10000; omega), hr.2.2.2.2⟩
  · exact ⟨hr.1, hr.2.1, wi _ (by show -10 ≤ d; omega) (by show d ≤ 10000; omega), hr.2.2.2.1, wi _ (by show -10 ≤ c; omega) (by show c ≤ 10000; omega)⟩
def RaisePost (R : Option (List Rate)) (w : World) : Ending → World → Prop := RowPost 25 5 ((R.getD []).flatMap Rate.cs) R.isSome w
theorem RaisePost.nil {w w' : World} (he : Ext w w') : RaisePost none w (.returned (.tuple #[.slice none 0 0, .bool false])) w' := ⟨Option.none, 0, 0, rfl, own_nil _ _ _ _, he⟩
theorem RaisePost.empty {w w' : World} (he : Ext w w') : RaisePost none w (.returned (.tuple #[.slice (some ⟨w'.heap.size, 0, Option.none⟩) 0 0, .bool false])) (w'.alloc (.cells #[] 25)) := ⟨_, 0, 0, rfl, own_empty _ _ _ _ he.size, he.alloc _⟩
set_option maxHeartbeats 1000000 in
theorem Raise1_any (s : Rate) (z g d : Int) (b : Nat) (w : World) (c0 : w.cell? ⟨b, 0, none⟩ = some (.int .i64 z)) (c1 : w.cell? ⟨b + 1, 0, none⟩ = some (.int .i64 g)) (c2 : w.cell? ⟨b + 2, 0, none⟩ = some (.int .i64 d)) :
    Calls Try.prog 70 #[.agg #[.int .i64 s.Zone, .int .i64 s.Grams, .int .i64 s.From, .int .i64 s.Until, .int .i64 s.Cents], .pointer (some ⟨b, 0, none⟩), .pointer (some ⟨b + 1, 0, none⟩), .pointer (some ⟨b + 2, 0, none⟩)] w fun e w' =>
      e = .returned (.bool (hitR z g d s)) ∧ Ext w w' := by
  have la : b < w.heap.size := World.block_lt_of_cell? w _ c0
  have lb : b + 1 < w.heap.size := World.block_lt_of_cell? w _ c1
  have lc : b + 2 < w.heap.size := World.block_lt_of_cell? w _ c2
  rcases chain4 (s.Zone == z) (s.Grams == g) (decide (s.From < d)) (decide (d ≤ s.Until)) with h1 | ⟨h1, h2⟩ | ⟨h1, h2, h3⟩ | ⟨h1, h2, h3, h4⟩ | ⟨h1, h2, h3, h4⟩
  all_goals
    go_enter Try.func70, Try.ntmps70
    go_wp2
    all_goals
      go_ret
      exact ⟨ret_bool (by first | (simp [hitR, h1]; done) | (simp [hitR, h1, h2]; done) | (simp [hitR, h1, h2, h3]; done) | (simp [hitR, h1, h2, h3, h4]; done)), (by repeat (first | exact Ext.refl _ | assumption | refine Ext.trans ?_ (by assumption) | refine Ext.drew ?_ | refine Ext.drewN ?_ _ | refine Ext.alloc ?_ _))⟩
set_option maxRecDepth 100000 in
set_option maxHeartbeats 1000000 in
theorem IndexRaise_any (A : Option Addr) (n c : Nat) (xs : List Rate) (z g d : Int) (b : Nat) (w : World) (h : RateL w A n xs) (c0 : w.cell? ⟨b, 0, none⟩ = some (.int .i64 z)) (c1 : w.cell? ⟨b + 1, 0, none⟩ = some (.int .i64 g)) (c2 : w.cell? ⟨b + 2, 0, none⟩ = some (.int .i64 d)) :
    Calls Try.prog 69 #[.slice A n c, .func (.func 70) #[] #[.pointer (some ⟨b, 0, none⟩), .pointer (some ⟨b + 1, 0, none⟩), .pointer (some ⟨b + 2, 0, none⟩)]] w fun e w' =>
      e = .returned (.int .i64 (firstAt (hitR z g d) xs)) ∧ Ext w w' := by
  have C0 := Lib.hid c0
  clear c0
  have C1 := Lib.hid c1
  clear c1
  have C2 := Lib.hid c2
  clear c2
  have hsm := h.small
  go_enter Try.func69, Try.ntmps69
  go_wp2
  go_loopw [8] (fun i wr => ∃ k : Nat, k ≤ n ∧ i = .int .i64 k ∧ noneTo (hitR z g d) xs k ∧ Ext w wr) (fun i _ => n - (intOf i).toNat)
  case atStart => exact ⟨0, Nat.zero_le _, rfl, noneTo_zero _ _, Ext.refl _⟩
  case round =>
    obtain ⟨k, hk, rfl, hno, he⟩ := hrel
    have HN := Lib.hid hno
    clear hno
    by_cases hlt : k < n
    · obtain ⟨b', off, x, rfl, hb, hx, g0, g1, g2, g3, g4⟩ := (h.ext he).at_ hlt
      have C := Lib.hid (Raise1_any x z g d b wr (he.cell1 C0.out) (he.cell1 C1.out) (he.cell1 C2.out))
      cases ht : hitR z g d x
      · go_wp2_with (go_at_call 70; refine C.out.mono ?_; rintro e wa ⟨rfl, he1⟩; rw [ht])
        go_roundw
        case rel => exact ⟨k + 1, by omega, by go_num, noneTo_succ HN.out hx.out ht, he.trans he1⟩
        case measure => simp [intOf]; omega
      · go_wp2_with (go_at_call 70; refine C.out.mono ?_; rintro e wa ⟨rfl, he1⟩; rw [ht])
        go_ret
        exact ⟨ret_int (firstAt_hit HN.out hx.out ht).symm, he.trans he1⟩
    · obtain rfl : k = n := by omega
      go_wp2
      go_ret
      exact ⟨ret_int (firstAt_miss (by have := h.len; omega) HN.out).symm, he⟩
end Go.Proofs.Ytkganlojknhajaa
