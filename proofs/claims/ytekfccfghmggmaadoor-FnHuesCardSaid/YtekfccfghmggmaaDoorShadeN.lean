/- Shades that take in a color: counts of hues. -/
import Derived.Test.YtekfccfghmggmaaDoorShadeS3
namespace Go.Proofs.YtekfccfghmggmaaDoor
open Go.RowKit
set_option linter.unusedVariables false
set_option linter.unusedSimpArgs false
attribute [local go_sem] ExtOf.cell

/-- A list of shades that lies in memory. -/
structure ShL (w : World) (A : Option Addr) (n : Nat) (xs : List Shade) : Prop where
  len : xs.length = n
  small : n ≤ 1048576
  wf : ∀ x ∈ xs, x.Wf
  rd : Rd w A n 5 (xs.flatMap Shade.cs)
theorem ShL.ext {w w' : World} {A : Option Addr} {n : Nat} {xs : List Shade} (h : ShL w A n xs) (he : Ext w w') : ShL w' A n xs := ⟨h.len, h.small, h.wf, h.rd.ext he⟩
theorem ShL.at_ {w : World} {A : Option Addr} {n : Nat} {xs : List Shade} {k : Nat} (h : ShL w A n xs) (hk : k < n) :
    ∃ b off x, A = some ⟨b, off, none⟩ ∧ b < w.heap.size ∧ Hid (xs[k]? = some x) ∧ x.Name.size ≤ maxLen ∧ w.cell? ⟨b, off + k * 5, none⟩ = some (.string x.Name) ∧ w.cell? ⟨b, off + k * 5 + 1, none⟩ = some (.int .i64 x.Hue) ∧ w.cell? ⟨b, off + k * 5 + 2, none⟩ = some (.int .i64 x.Width) ∧ w.cell? ⟨b, off + k * 5 + 3, none⟩ = some (.int .i64 x.Dark) ∧ w.cell? ⟨b, off + k * 5 + 4, none⟩ = some (.int .i64 x.Light) := by
  obtain ⟨b, off, x, e, hb, hx, g⟩ := Shade.at_ h.rd h.len hk
  exact ⟨b, off, x, e, hb, hx, (h.wf x (List.mem_of_getElem? hx.out)).1, g⟩
theorem areShades_L {w : World} {A : Option Addr} {n c : Nat} {xs : List Shade} (h : ShL w A n xs) :
    Calls Tryd.prog 32 #[.slice A n c] w fun e w' => e = .returned (.bool (shadesOk xs)) ∧ Ext w w' := areShades_any A n c xs w h.len h.small h.wf h.rd
theorem l7Good_L {w : World} {A : Option Addr} {n c : Nat} {xs : List Shade} (h : ShL w A n xs) :
    Calls Tryd.prog 37 #[.slice A n c] w fun e w' => e = .returned (.bool (shadesOk xs)) ∧ Ext w w' := l7Good_any A n c xs w h.len h.small h.wf h.rd

set_option maxHeartbeats 400000 in
theorem isLight_any (n : Int) (w : World) :
    Calls Tryd.prog 33 #[.int .i64 n] w fun e w' => e = .returned (.bool (inB n 0 100)) ∧ w = w' := by
  go_enter Tryd.func33, Tryd.ntmps33
  go_wp2_with (go_at_call 48; refine (inRange_any _ _ _ _).mono ?_; rintro e w' ⟨rfl, rfl⟩)
  go_ret
  exact ⟨rfl, rfl⟩

/-- A shade takes in a color. -/
def takes (hue light : Int) (x : Shade) : Bool := decide (hueDist x.Hue hue ≤ x.Width) && inB light x.Dark x.Light

set_option maxHeartbeats 400000 in
theorem takes_any (x : Shade) (hue light : Int) (hx : shGood x = true) (h1 : 0 ≤ hue) (h2 : hue ≤ 359) (w : World) :
    Calls Tryd.prog 36 #[.agg #[.string x.Name, .int .i64 x.Hue, .int .i64 x.Width, .int .i64 x.Dark, .int .i64 x.Light], .int .i64 hue, .int .i64 light] w fun e w' =>
      e = .returned (.bool (takes hue light x)) ∧ Ext w w' := by
  obtain ⟨_, ⟨a2, a3⟩, ⟨a4, a5⟩, ⟨a6, a7⟩, a8⟩ := shOk_all hx
  clear hx
  cases hd : decide (hueDist x.Hue hue ≤ x.Width)
  all_goals
    go_enter Tryd.func36, Tryd.ntmps36
    go_wp2
    (refine wp_region_ext_lit (by kernel_rfl) (by kernel_rfl) ?_; (repeat (go_big_quiet_step ((first | (go_at_call 23; exact ext_call_same (hueDistance_any _ _ (by omega) (by omega) (by omega) (by omega) _)) | (go_at_call 48; exact ext_call_same (inRange_any _ _ _ _)))))); refine wpQuiet_nil ?_; rintro wq ⟨⟨_, heq⟩, rfl⟩; (try dsimp only))
    go_wp2
    go_ret
    exact ⟨ret_bool (by simp [takes, hd]), ((Ext.refl _).alloc _).trans heq⟩

set_option maxHeartbeats 400000 in
theorem l7Takes_any (x : Shade) (hue light : Int) (hx : shGood x = true) (h1 : 0 ≤ hue) (h2 : hue ≤ 359) (w : World) :
    Calls Tryd.prog 39 #[.agg #[.string x.Name, .int .i64 x.Hue, .int .i64 x.Width, .int .i64 x.Dark, .int .i64 x.Light], .int .i64 hue, .int .i64 light] w fun e w' =>
      e = .returned (.bool (takes hue light x)) ∧ Ext w w' := by
  obtain ⟨_, ⟨a2, a3⟩, ⟨a4, a5⟩, ⟨a6, a7⟩, a8⟩ := shOk_all hx
  clear hx
  cases hd : decide (hueDist x.Hue hue ≤ x.Width)
  all_goals
    go_enter Tryd.func39, Tryd.ntmps39
    go_wp2
    (refine wp_region_ext_lit (by kernel_rfl) (by kernel_rfl) ?_; (repeat (go_big_quiet_step ((first | (go_at_call 25; exact ext_call_same (l7Far_any _ _ (by omega) (by omega) (by omega) (by omega) _)) | (go_at_call 38; exact ext_call_same (l1In_any _ _ _ _)))))); refine wpQuiet_nil ?_; rintro wq ⟨⟨_, heq⟩, rfl⟩; (try dsimp only))
    go_wp2
    go_ret
    exact ⟨ret_bool (by simp [takes, hd]), ((Ext.refl _).alloc _).trans heq⟩

theorem shadesOk_good {xs : List Shade} (h : shadesOk xs = true) : ∀ x ∈ xs, shGood x = true := by
  have h' : adj shP none xs = true := by
    simp only [shadesOk, Bool.and_eq_true] at h; exact h.1
  clear h
  generalize none = q at h'
  induction xs generalizing q with
  | nil => simp
  | cons y ys ih =>
    simp only [adj, Bool.and_eq_true] at h'
    intro x hx
    rcases List.mem_cons.1 hx with rfl | hx
    · have := h'.1
      simp only [shP, Bool.and_eq_true] at this
      exact this.1
    · exact ih (some y) h'.2 x hx

set_option maxHeartbeats 400000 in
theorem l7Count_any (A : Option Addr) (n c : Nat) (xs : List Shade) (hue light : Int) (w : World) (h : ShL w A n xs) (hg : ∀ x ∈ xs, shGood x = true) (h1 : 0 ≤ hue) (h2 : hue ≤ 359) :
    Calls Tryd.prog 40 #[.slice A n c, .int .i64 hue, .int .i64 light] w fun e w' => e = .returned (.int .i64 ((xs.countP (takes hue light) : Nat) : Int)) ∧ Ext w w' := by
  have HG := Lib.hid hg
  have hsm := h.small
  clear hg
  go_enter Tryd.func40, Tryd.ntmps40
  go_wp2
  go_loopw [7, 8] (fun m i wr => ∃ k : Nat, k ≤ n ∧ i = .int .i64 k ∧ m = .int .i64 (((xs.take k).countP (takes hue light) : Nat) : Int) ∧ Ext w wr) (fun _ i _ => n - (intOf i).toNat)
  case atStart => exact ⟨0, Nat.zero_le _, rfl, by simp, Ext.refl _⟩
  case round =>
    obtain ⟨k, hk, rfl, rfl, he⟩ := hrel
    have hc : (xs.take k).countP (takes hue light) ≤ k := Nat.le_trans (List.countP_le_length) (by simp; omega)
    by_cases hlt : k < n
    · obtain ⟨b, off, x, rfl, hb, hx, hxn, g0, g1, g2, g3, g4⟩ := (h.ext he).at_ hlt
      have hxg := HG.out x (List.mem_of_getElem? hx.out)
      have hs : (xs.take (k + 1)).countP (takes hue light) = (xs.take k).countP (takes hue light) + if takes hue light x then 1 else 0 := by
        obtain ⟨hk', e⟩ := List.getElem?_eq_some_iff.1 hx.out
        rw [List.take_succ_eq_append_getElem hk', List.countP_append, e]
        simp [List.countP_cons]
      have HS := Lib.hid hs
      clear hs
      generalize (xs.take k).countP (takes hue light) = m at *
      cases ht : takes hue light x
      · go_wp2_with (go_at_call 39; refine (l7Takes_any _ _ _ hxg (by omega) (by omega) _).mono ?_; rintro e wa ⟨rfl, he1⟩)
        go_roundw
        case rel => exact ⟨k + 1, by omega, by go_num, by rw [HS.out, ht]; rfl, he.trans he1⟩
        case measure => simp [intOf]; omega
      · go_wp2_with (go_at_call 39; refine (l7Takes_any _ _ _ hxg (by omega) (by omega) _).mono ?_; rintro e wa ⟨rfl, he1⟩)
        go_roundw
        case rel => exact ⟨k + 1, by omega, by go_num, by rw [HS.out, ht]; go_num, he.trans he1⟩
        case measure => simp [intOf]; omega
    · obtain rfl : k = n := by omega
      go_wp2
      go_ret
      exact ⟨ret_int (by rw [List.take_of_length_le (by have := h.len; omega)]), he⟩
end Go.Proofs.YtekfccfghmggmaaDoor
