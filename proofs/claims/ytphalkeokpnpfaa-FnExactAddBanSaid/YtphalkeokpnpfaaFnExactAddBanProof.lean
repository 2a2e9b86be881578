/-
  'FnExactAddBan' answers true for every input, and leaves its argument as it was.
  Conditions: none beyond the given row's own.
-/
import Derived.Test.YtphalkeokpnpfaaKMark
import Derived.Test.YtphalkeokpnpfaaNeed
import Derived.Test.YtphalkeokpnpfaaAddK
import Derived.Test.YtphalkeokpnpfaaAddI
import Derived.Test.YtphalkeokpnpfaaAddS
import Derived.Deep.RegionHeld3
import Derived.Deep.CutBlock
import Derived.Test.YtphalkeokpnpfaaRows
import Derived.Test.YtphalkeokpnpfaaOpen
import Derived.ProofKit
import Derived.OpenShut
import Derived.Below
namespace Go.Proofs.Ytphalkeokpnpfaa
open Go.RowKit
set_option linter.unusedVariables false
set_option linter.unusedSimpArgs false
attribute [local go_sem] ExtOf.cell

theorem marks_next {k : Int} {Z : List Value} {p : Nat} (h : ∀ i, i < p → Z[i]? = some (.int .i64 (k + (i : Nat)))) (hp : p < Z.length) : ∀ i, i < p + 1 → (Z.set p (.int .i64 (k + (p : Nat))))[i]? = some (.int .i64 (k + (i : Nat))) := by
  intro i hi
  rw [List.getElem?_set]
  by_cases e : p = i
  · subst e; simp [hp]
  · rw [if_neg e]; exact h i (by omega)
theorem marks_four {k : Int} {Z : List Value} {j n : Nat} (hl : Z.length = n * 4) (hj : j < n) (h : ∀ i, i < 4 * j → Z[i]? = some (.int .i64 (k + (i : Nat)))) :
    ∀ i, i < 4 * (j + 1) → ((((Z.set (j * 4) (.int .i64 (k + (j * 4 : Nat)))).set (j * 4 + 1) (.int .i64 (k + (j * 4 + 1 : Nat)))).set (j * 4 + 2) (.int .i64 (k + (j * 4 + 2 : Nat)))).set (j * 4 + 3) (.int .i64 (k + (j * 4 + 3 : Nat))))[i]? = some (.int .i64 (k + (i : Nat))) := by
  intro i hi
  refine marks_next (p := j * 4 + 3) ?_ (by simp [hl]; omega) i (by omega)
  refine marks_next (p := j * 4 + 2) ?_ (by simp [hl]; omega)
  refine marks_next (p := j * 4 + 1) ?_ (by simp [hl]; omega)
  refine marks_next (p := j * 4) ?_ (by omega)
  intro i hi; exact h i (by omega)
theorem marks_all {k : Int} {Z : List Value} {n : Nat} (hl : Z.length = n * 4) (h : ∀ i, i < 4 * n → Z[i]? = some (.int .i64 (k + (i : Nat)))) : Z = ints (marksI k (n * 4)) := by
  refine List.ext_getElem? fun i => ?_
  by_cases hi : i < 4 * n
  · rw [h i hi, ints, List.getElem?_map, marksI_get k (show i < n * 4 by omega)]; rfl
  · rw [List.getElem?_eq_none (by omega), List.getElem?_eq_none (by simp [ints, marksI_length]; omega)]

set_option maxRecDepth 100000 in
set_option maxHeartbeats 1000000 in
theorem markBanS_v (A : Option Addr) (n c base : Nat) (cs : List Value) (k : Int) (w : World) (h1 : 1 ≤ k) (h2 : k + 4 * n ≤ 100000000) (ho : w.ownsRow base 57 4 (.slice A n c) n cs) :
    Calls Try.prog 66 #[.slice A n c, .int .i64 k] w fun e w' => e = .returned (.int .i64 (k + 4 * n)) ∧ w'.ownsRow base 57 4 (.slice A n c) n (ints (marksI k (n * 4))) ∧ w.grownBy w' (Value.ownBlock (.slice A n c)) := by
  go_enter Try.func66, Try.ntmps66
  go_wp2
  go_loopw [1, 5] (fun q i wr => ∃ (j : Nat) (cs : List Value), j ≤ n ∧ i = .int .i64 j ∧ q = .int .i64 (k + 4 * j) ∧ wr.ownsRow base 57 4 (.slice A n c) n cs ∧ (∀ i, i < 4 * j → cs[i]? = some (.int .i64 (k + (i : Nat)))) ∧ w.grownBy wr (Value.ownBlock (.slice A n c))) (fun _ i _ => n - (intOf i).toNat)
  case atStart => exact ⟨0, cs, Nat.zero_le _, rfl, by simp, ho, fun i hi => by omega, World.grownBy.refl _ _⟩
  case round =>
    obtain ⟨j, cs, hj, rfl, rfl, hor, hmk, hgr⟩ := hrel
    clear ho
    by_cases hlt : j < n
    · obtain ⟨g, cap, hv, hbg, hgl⟩ := hor.form (by omega)
      injection hv with hA _ hc
      subst hA
      clear hc
      have hfr : ∀ t, t < 4 → (∃ u, wr.cell? ⟨g, j * 4 + t, none⟩ = some u) ∧ wr.frozen? ⟨g, j * 4 + t, none⟩ = false := fun t ht => ⟨own_cell hor (by omega), hor.frozenAt _⟩
      obtain ⟨⟨u0, c0⟩, f0⟩ := hfr 0 (by omega); obtain ⟨⟨u1, c1⟩, f1⟩ := hfr 1 (by omega); obtain ⟨⟨u2, c2⟩, f2⟩ := hfr 2 (by omega); obtain ⟨⟨u3, c3⟩, f3⟩ := hfr 3 (by omega)
      simp only [Nat.add_zero] at c0 f0
      clear hfr
      have HOR := Lib.hid hor
      have HMK := Lib.hid (marks_four (k := k) hor.1 hlt hmk)
      clear hor hmk
      go_wp2
      go_roundw
      case rel =>
        have hor := HOR.out
        have e0 : k + 4 * (j : Int) = k + ((j * 4 : Nat) : Int) := by omega
        have e1 : k + 4 * (j : Int) + 1 = k + ((j * 4 + 1 : Nat) : Int) := by omega
        have e2 : k + 4 * (j : Int) + 1 + 1 = k + ((j * 4 + 2 : Nat) : Int) := by omega
        have e3 : k + 4 * (j : Int) + 1 + 1 + 1 = k + ((j * 4 + 3 : Nat) : Int) := by omega
        refine ⟨j + 1, _, by omega, by go_num, by (congr 1; omega), ((((hor.stored _ _).1.stored _ _).1.stored _ _).1.stored _ _).1, ?_, grown_set (grown_set (grown_set (grown_set (hgr) _ _) _ _) _ _) _ _⟩
        rw [e3, e2, e1, e0]
        exact HMK.out
      case measure => simp [intOf]; omega
    · obtain rfl : j = n := by omega
      have he := Lib.hid (marks_all hor.1 hmk)
      clear hmk
      go_wp2
      go_ret
      exact ⟨rfl, by rw [← he.out]; exact hor, hgr⟩
set_option maxRecDepth 100000 in
set_option maxHeartbeats 1000000 in
theorem heldBanS_any (A : Option Addr) (n c : Nat) (k : Int) (w : World) (h1 : 1 ≤ k) (h2 : k + 4 * n ≤ 100000000) (hr : Rd w A n 4 (ints (marksI k (n * 4)))) :
    Calls Try.prog 81 #[.slice A n c, .int .i64 k] w fun e w' => e = .returned (.int .i64 (k + 4 * n)) ∧ Ext w w' := by
  go_enter Try.func81, Try.ntmps81
  go_wp2
  go_loopw [1, 5] (fun q i wr => ∃ j : Nat, j ≤ n ∧ i = .int .i64 j ∧ q = .int .i64 (k + 4 * j) ∧ Ext w wr) (fun _ i _ => n - (intOf i).toNat)
  case atStart => exact ⟨0, Nat.zero_le _, rfl, by simp, Ext.refl _⟩
  case round =>
    obtain ⟨j, hj, rfl, rfl, he⟩ := hrel
    by_cases hlt : j < n
    · obtain ⟨b, off, rfl, hb, hc⟩ := (hr.ext he).2 (by omega)
      have hx : ∀ t, t < 4 → wr.cell? ⟨b, off + (j * 4 + t), none⟩ = some (.int .i64 (k + 4 * j + t)) := fun t ht => hc _ _ (by
        rw [ints, List.getElem?_map, marksI_get k (show j * 4 + t < n * 4 by omega)]
        simp only [Option.map_some]
        congr 2; omega)
      have g0 : wr.cell? ⟨b, off + j * 4, none⟩ = some (.int .i64 (k + 4 * j)) := by simpa using hx 0 (by omega)
      have g1 : wr.cell? ⟨b, off + j * 4 + 1, none⟩ = some (.int .i64 (k + 4 * j + 1)) := by simpa [Nat.add_assoc] using hx 1 (by omega)
      have g2 : wr.cell? ⟨b, off + j * 4 + 2, none⟩ = some (.int .i64 (k + 4 * j + 1 + 1)) := by simpa [Nat.add_assoc, Int.add_assoc] using hx 2 (by omega)
      have g3 : wr.cell? ⟨b, off + j * 4 + 3, none⟩ = some (.int .i64 (k + 4 * j + 1 + 1 + 1)) := by simpa [Nat.add_assoc, Int.add_assoc] using hx 3 (by omega)
      clear hr hx hc
      go_wp2
      go_roundw
      case rel => exact ⟨j + 1, by omega, by go_num, by (congr 1; omega), he⟩
      case measure => simp [intOf]; omega
    · obtain rfl : j = n := by omega
      go_wp2
      go_ret
      exact ⟨rfl, he⟩
/-- What marking a table leaves. -/
def MarksPost (A : Option Addr) (n c : Nat) (B : Option Addr) (m d base1 base2 : Nat) (k : Int) (w : World) (e : Ending) (w' : World) : Prop :=
  e = .returned (.int .i64 (k + n + 4 * m)) ∧ w'.ownsRow base1 3 1 (.slice A n c) n (ints (marksI k n)) ∧ w'.ownsRow base2 57 4 (.slice B m d) m (ints (marksI (k + n) (m * 4))) ∧
    ∃ wm, w.grownBy wm (Value.ownBlock (.slice A n c)) ∧ wm.grownBy w' (Value.ownBlock (.slice B m d))
set_option maxRecDepth 100000 in
set_option maxHeartbeats 1000000 in
theorem markKindTable_v (A : Option Addr) (n c : Nat) (B : Option Addr) (m d b1 b2 : Nat) (ss : List Int) (cs : List Value) (k : Int) (w : World) (h1 : 1 ≤ k) (h2 : k + n + 4 * m ≤ 100000000) (o1 : w.ownsRow b1 3 1 (.slice A n c) n (ints ss)) (o2 : w.ownsRow b2 57 4 (.slice B m d) m cs) :
    Calls Try.prog 28 #[.agg #[.slice A n c, .slice B m d], .int .i64 k] w (MarksPost A n c B m d b1 b2 k w) := by
  have O1 := Lib.hid (o1.alloc (.cells #[.slice A n c, .slice B m d] 30))
  have O2 := Lib.hid (o2.alloc (.cells #[.slice A n c, .slice B m d] 30))
  have z1 := Lib.hid (fun k hk => (o1.lt k hk).2)
  clear o1 o2
  go_enter Try.func28, Try.ntmps28
  go_wp2_with fail
  refine (markIntS_any A n c b1 ss k _ h1 (by omega) O1.out).mono ?_
  rintro e w1 ⟨rfl, p1, q1⟩
  have hoff : Off A w.heap.size := by
    intro x o s e
    subst e
    have := z1.out x rfl
    omega
  have O3 := Lib.hid (O2.out.kept q1 (own_types O2.out O1.out intBan.symm))
  have P1 := Lib.hid p1
  have c1 : w1.cell? ⟨w.heap.size, 1, none⟩ = some (.slice B m d) := grown_cell (A := A) (m := n) (c := c) q1 hoff (new_cell _ _ _ 1 _ rfl)
  have Q1 := Lib.hid ((World.grownBy_alloc w _ _).trans q1)
  clear p1 q1 hoff
  go_wp2_with fail
  refine (markBanS_v B m d b2 cs (k + n) _ (by omega) (by omega) O3.out).mono ?_
  rintro e w2 ⟨rfl, p2, q2⟩
  have P2 := Lib.hid (P1.out.kept q2 (own_types P1.out O3.out intBan))
  go_wp2
  go_ret
  exact ⟨ret_int rfl, P2.out, p2, w1, Q1.out, q2⟩
set_option maxRecDepth 100000 in
set_option maxHeartbeats 1000000 in
theorem heldKindTable_any (A : Option Addr) (n c : Nat) (B : Option Addr) (m d : Nat) (k : Int) (w : World) (h1 : 1 ≤ k) (h2 : k + n + 4 * m ≤ 100000000) (r1 : Rd w A n 1 (ints (marksI k n))) (r2 : Rd w B m 4 (ints (marksI (k + n) (m * 4)))) :
    Calls Try.prog 43 #[.agg #[.slice A n c, .slice B m d], .int .i64 k] w fun e w' => e = .returned (.int .i64 (k + n + 4 * m)) ∧ Ext w w' := by
  have hk1 : ¬ (k + (n : Int) < 0) := by omega
  have hk2 : ¬ (k + (n : Int) + 4 * (m : Int) < 0) := by omega
  have hz1 : decide (k + (n : Int) < 0) = false := decide_eq_false hk1
  have hz2 : decide (k + (n : Int) + 4 * (m : Int) < 0) = false := decide_eq_false hk2
  go_enter Try.func43, Try.ntmps43
  go_wp2_with fail
  refine (heldIntS_any A n c k _ h1 (by omega) (r1.ext (by repeat (first | exact Ext.refl _ | assumption | refine Ext.trans ?_ (by assumption) | refine Ext.drew ?_ | refine Ext.drewN ?_ _ | refine Ext.alloc ?_ _)))).mono ?_
  rintro e w1 ⟨rfl, e1⟩
  have c1 : w1.cell? ⟨w.heap.size, 1, none⟩ = some (.slice B m d) := e1.cell1 (new_cell _ _ _ 1 _ rfl)
  have hlt : w.heap.size < w1.heap.size := World.block_lt_of_cell? w1 _ c1
  go_wp2_with fail
  refine (heldBanS_any B m d (k + n) _ (by omega) (by omega) (r2.ext (by repeat (first | exact Ext.refl _ | assumption | refine Ext.trans ?_ (by assumption) | refine Ext.drew ?_ | refine Ext.drewN ?_ _ | refine Ext.alloc ?_ _)))).mono ?_
  rintro e w2 ⟨rfl, e2⟩
  go_wp2
  go_ret
  exact ⟨ret_int rfl, (by repeat (first | exact Ext.refl _ | assumption | refine Ext.trans ?_ (by assumption) | refine Ext.drew ?_ | refine Ext.drewN ?_ _ | refine Ext.alloc ?_ _))⟩
end Go.Proofs.Ytphalkeokpnpfaa

namespace Go.Proofs.Ytphalkeokpnpfaa
open Go.RowKit
set_option linter.unusedVariables false
set_option linter.unusedSimpArgs false
attribute [local go_sem] ExtOf.cell

/-- A table of the law: its box and its two lists, all in blocks lo .. hi - 1. -/
structure Tb (W : World) (lo hi x : Nat) (A : Option Addr) (n c : Nat) (B : Option Addr) (m d : Nat) (ls cs : List Value) : Prop where
  bx : W.ownsRow lo 30 2 (.slice (some ⟨x, 0, none⟩) 1 1) 1 [.slice A n c, .slice B m d]
  ri : W.ownsRow lo 3 1 (.slice A n c) n ls
  rb : W.ownsRow lo 57 4 (.slice B m d) m cs
  ux : x < hi
  ui : ∀ k, (Value.slice A n c).ownBlock = some k → k < hi
  ub : ∀ k, (Value.slice B m d).ownBlock = some k → k < hi
section
variable {W W' : World} {lo hi x : Nat} {A : Option Addr} {n c : Nat} {B : Option Addr} {m d : Nat} {ls cs : List Value}
theorem Tb.step (h : Tb W lo hi x A n c B m d ls cs) (he : Ext W W') : Tb W' lo hi x A n c B m d ls cs := ⟨he.own h.bx, he.own h.ri, he.own h.rb, h.ux, h.ui, h.ub⟩
theorem Tb.row (h : Tb W lo hi x A n c B m d ls cs) {g : Nat} (hg : W.grownBy W' (some g)) (ho : g < lo ∨ hi ≤ g) : Tb W' lo hi x A n c B m d ls cs :=
  ⟨h.bx.kept hg (ne_row (fun k hk => by have := (h.bx.lt k hk).1; have h2 : some x = some k := hk; injection h2 with h2; have := h.ux; omega)), h.ri.kept hg (ne_row (fun k hk => by have := (h.ri.lt k hk).1; have := h.ui k hk; omega)), h.rb.kept hg (ne_row (fun k hk => by have := (h.rb.lt k hk).1; have := h.ub k hk; omega)), h.ux, h.ui, h.ub⟩
theorem ext_of_none (hg : W.grownBy W' none) : Ext W W' := ⟨hg.os, hg.tape, hg.output, hg.size, fun k hk => hg.block k hk (by simp)⟩
theorem Tb.grow (h : Tb W lo hi x A n c B m d ls cs) {o : Option Nat} (hg : W.grownBy W' o) (ho : ∀ g, o = some g → g < lo ∨ hi ≤ g) : Tb W' lo hi x A n c B m d ls cs := by
  cases o with
  | none => exact h.step (ext_of_none hg)
  | some g => exact h.row hg (ho g rfl)
theorem Tb.lo_x (h : Tb W lo hi x A n c B m d ls cs) : lo ≤ x ∧ x < W.heap.size := h.bx.lt x rfl
theorem Tb.c0 (h : Tb W lo hi x A n c B m d ls cs) : W.cell? ⟨x, 0, none⟩ = some (.slice A n c) := own_at h.bx (j := 0) rfl
theorem Tb.c1 (h : Tb W lo hi x A n c B m d ls cs) : W.cell? ⟨x, 1, none⟩ = some (.slice B m d) := own_at h.bx (j := 1) rfl
/-- The table is marked: its box stands, its lists hold the marks. -/
theorem Tb.marked (h : Tb W lo hi x A n c B m d ls cs) {k : Int} {e : Ending} (hp : MarksPost A n c B m d lo lo k W e W') : Tb W' lo hi x A n c B m d (ints (marksI k n)) (ints (marksI (k + n) (m * 4))) := by
  obtain ⟨_, p1, p2, wm, q1, q2⟩ := hp
  have b1 := h.bx.kept q1 (own_types h.bx h.ri intTab.symm)
  have r2 := h.rb.kept q1 (own_types h.rb h.ri intBan.symm)
  exact ⟨b1.kept q2 (own_types b1 r2 banTab.symm), p1, p2, h.ux, h.ui, h.ub⟩
/-- A reader's view of the table. -/
theorem Tb.tab {ss : List Int} {bs : List Ban} (h : Tb W lo hi x A n c B m d (ints ss) (bs.flatMap Ban.cs)) (hn : n ≤ 1048576) (hm : m ≤ 1048576) (h1 : ∀ x ∈ ss, (Lit.int .i64 x).wf = true) (h2 : ∀ x ∈ bs, x.Wf) : TabL W A n B m ss bs :=
  ⟨by have := h.ri.1; rw [ints_length] at this; omega, hn, h1, Rd.own h.ri, ⟨by have := h.rb.1; rw [bans_len] at this; omega, hm, h2, Rd.own h.rb⟩⟩
end
/-- The two boxes of the arguments. -/
structure LB (w : World) (u0 u1 : Value) (b : Ban) (W : World) : Prop where
  ext : Ext w W
  c0 : W.cell? ⟨w.heap.size, 0, none⟩ = some u0
  c1 : W.cell? ⟨w.heap.size, 1, none⟩ = some u1
  d0 : W.cell? ⟨w.heap.size + 1, 0, none⟩ = some (.int .i64 b.A)
  d1 : W.cell? ⟨w.heap.size + 1, 1, none⟩ = some (.int .i64 b.X)
  d2 : W.cell? ⟨w.heap.size + 1, 2, none⟩ = some (.int .i64 b.B)
  d3 : W.cell? ⟨w.heap.size + 1, 3, none⟩ = some (.int .i64 b.Y)
section
variable {w W W' : World} {u0 u1 : Value} {b : Ban}
theorem LB.lt (h : LB w u0 u1 b W) : w.heap.size + 1 < W.heap.size := World.block_lt_of_cell? W _ h.d0
theorem LB.step (h : LB w u0 u1 b W) (he : Ext W W') : LB w u0 u1 b W' :=
  ⟨h.ext.trans he, he.cell1 h.c0, he.cell1 h.c1, he.cell1 h.d0, he.cell1 h.d1, he.cell1 h.d2, he.cell1 h.d3⟩
theorem LB.row (h : LB w u0 u1 b W) {g : Nat} (hg : W.grownBy W' (some g)) (hlt : w.heap.size + 1 < g) : LB w u0 u1 b W' :=
  have hc : ∀ {x o : Nat} {u : Value}, x ≠ g → W.cell? ⟨x, o, none⟩ = some u → W'.cell? ⟨x, o, none⟩ = some u := fun hb hc => grown_cell (A := some ⟨g, 0, none⟩) (m := 0) (c := 0) hg (Off.ne (Ne.symm hb)) hc
  ⟨h.ext.row hg (by omega), hc (by omega) h.c0, hc (by omega) h.c1, hc (by omega) h.d0, hc (by omega) h.d1, hc (by omega) h.d2, hc (by omega) h.d3⟩
theorem LB.grow (h : LB w u0 u1 b W) {o : Option Nat} (hg : W.grownBy W' o) (ho : ∀ g, o = some g → w.heap.size + 1 < g) : LB w u0 u1 b W' := by
  cases o with
  | none => exact h.step (ext_of_none hg)
  | some g => exact h.row hg (ho g rfl)
theorem LB.new (w : World) (u0 u1 : Value) (b : Ban) : LB w u0 u1 b ((w.alloc (.cells #[u0, u1] 25)).alloc (.cells #[.int .i64 b.A, .int .i64 b.X, .int .i64 b.B, .int .i64 b.Y] 54)) := by
  have e1 : Ext w (w.alloc (.cells #[u0, u1] 25)) := (Ext.refl w).alloc _
  have h1 : (w.alloc (.cells #[u0, u1] 25)).heap.size = w.heap.size + 1 := by simp
  have k := fun j v hv => new_cell (w.alloc (.cells #[u0, u1] 25)) #[.int .i64 b.A, .int .i64 b.X, .int .i64 b.B, .int .i64 b.Y] 54 j v hv
  rw [h1] at k
  have e2 := (Ext.refl (w.alloc (.cells #[u0, u1] 25))).alloc (.cells #[.int .i64 b.A, .int .i64 b.X, .int .i64 b.B, .int .i64 b.Y] 54)
  exact ⟨e1.trans e2, e2.cell1 (new_cell _ _ _ 0 _ rfl), e2.cell1 (new_cell _ _ _ 1 _ rfl), k 0 _ rfl, k 1 _ rfl, k 2 _ rfl, k 3 _ rfl⟩
end
end Go.Proofs.Ytphalkeokpnpfaa

namespace Go.Proofs.Ytphalkeokpnpfaa
open Go.RowKit
set_option linter.unusedVariables false
set_option linter.unusedSimpArgs false
attribute [local go_sem] ExtOf.cell

structure Sz (k : Nat) (W : World) : Prop where
  le : k ≤ W.heap.size
theorem Sz.step {k : Nat} {W W' : World} (h : Sz k W) (he : Ext W W') : Sz k W' := ⟨Nat.le_trans h.le he.size⟩
theorem Sz.grow {k : Nat} {W W' : World} (h : Sz k W) {o : Option Nat} (hg : W.grownBy W' o) (_ : ∀ g, o = some g → True) : Sz k W' := ⟨Nat.le_trans h.le hg.size⟩
/-- A result of AddBan in a box of its own. -/
def Got (w : World) (ok : Bool) (ls : List Int) (cs : List Ban) (p q : Value) (W : World) : Prop :=
  ∃ x A c B d, p = .pointer (some ⟨x, 0, none⟩) ∧ q = .bool ok ∧ Tb W w.heap.size W.heap.size x A ls.length c B cs.length d (ints ls) (cs.flatMap Ban.cs)
set_option maxRecDepth 100000 in
set_option maxHeartbeats 4000000 in
theorem FnExactAddBan_any (A : Option Addr) (n c : Nat) (B : Option Addr) (m d : Nat) (ss : List Int) (bs : List Ban) (b : Ban) (w : World) (hn : n ≤ maxLen) (hm : m ≤ maxLen) (hs : ss.length = n) (hb : bs.length = m)
    (hsw : ∀ x ∈ ss, (Lit.int .i64 x).wf = true) (hw : ∀ x ∈ bs, x.Wf) (hbw : b.Wf) (hsr : Rd w A n 1 (ints ss)) (hr : Rd w B m 4 (bs.flatMap Ban.cs)) :
    Calls Try.prog 11 #[.agg #[.slice A n c, .slice B m d], .agg #[.int .i64 b.A, .int .i64 b.X, .int .i64 b.B, .int .i64 b.Y]] w fun e w' => e = .returned (.bool true) ∧ Ext w w' := by
  have LB0 := Lib.hid (LB.new w (.slice A n c) (.slice B m d) b)
  have zb := LB0.out.lt
  have HSL := Lib.hid hs
  have HBL := Lib.hid hb
  have HSW := Lib.hid hsw
  have HW := Lib.hid hw
  have R1 := Lib.hid (hsr.ext LB0.out.ext)
  have R2 := Lib.hid (hr.ext LB0.out.ext)
  have HSR := Lib.hid hsr
  have HRR := Lib.hid hr
  clear hs hb hsw hw hsr hr
  go_enter Try.func11, Try.ntmps11
  go_wp2_with fail
  generalize (w.alloc (.cells #[.slice A n c, .slice B m d] 25)).alloc (.cells #[.int .i64 b.A, .int .i64 b.X, .int .i64 b.B, .int .i64 b.Y] 54) = wb at *
  refine (szKindTable_any A n c B m d ss bs _ _ (by omega) (by omega) hn hm HBL.out HW.out R2.out).mono ?_
  rintro e w1 ⟨r, rfl, r1, r2, r3, e1⟩
  by_cases hr0 : r < 0
  · go_wp2
    go_ret
    exact ⟨rfl, LB0.out.ext.trans e1⟩
  obtain ⟨hn1, hm1⟩ := r3 (by omega)
  have T1 := Lib.hid (show TabL w A n B m ss bs from ⟨HSL.out, by omega, HSW.out, HSR.out, ⟨HBL.out, by omega, HW.out, HRR.out⟩⟩)
  have LB1 := Lib.hid (LB0.out.step e1)
  have hd0 : decide (r < 0) = false := by simpa using hr0
  have S2 := Lib.hid (fun (X Y : Nat) (w' : World) (t : TabL w' (some ⟨X, 0, none⟩) n (some ⟨Y, 0, none⟩) m ss bs) => AddBanS_any ⟨X, 0, none⟩ n n Y 0 m m ss bs b w' t (Nat.le_refl m) hbw)
  have I4 := Lib.hid (fun (X Y : Nat) (w' : World) (t : TabL w' (some ⟨X, 0, none⟩) n (some ⟨Y, 0, none⟩) m ss bs) => AddBanI_any (some ⟨X, 0, none⟩) n n (some ⟨Y, 0, none⟩) m m ss bs b w' t hbw)
  have HOK := Lib.hid (show okA ss bs b = true → (insB bs b).length ≤ 20 from fun h => by
    have h9 : TabOk ss (insB bs b) = true := by simp only [okA, Bool.and_eq_true] at h; exact h.2
    obtain ⟨_, t3, _, _⟩ := TabOk_all h9
    exact t3)
  unfold TabPost at S2 I4
  generalize okA ss bs b = ok at S2 I4 HOK
  obtain ⟨ls, hls⟩ : ∃ ls : List Int, (if ok then ss else []) = ls := ⟨_, rfl⟩
  obtain ⟨cs, hcs⟩ : ∃ cs : List Ban, (if ok then insB bs b else []) = cs := ⟨_, rfl⟩
  have HLW := Lib.hid (show (∀ x ∈ ls, (Lit.int .i64 x).wf = true) ∧ ls.length ≤ 1048576 from by
    subst hls; cases ok
    · simp
    · exact ⟨by simpa using HSW.out, by simp [HSL.out]; omega⟩)
  have HCW := Lib.hid (show (∀ x ∈ cs, x.Wf) ∧ cs.length ≤ 20 from by
    subst hcs; cases ok
    · simp
    · refine ⟨fun x hx => ?_, by simpa using HOK.out rfl⟩
      have hx : x ∈ bs.take (placeOf bs b) ++ b :: bs.drop (placeOf bs b) := by simpa [insB] using hx
      rcases List.mem_append.1 hx with hx | hx
      · exact HW.out x (List.mem_of_mem_take hx)
      · rcases List.mem_cons.1 hx with rfl | hx
        · exact hbw
        · exact HW.out x (List.mem_of_mem_drop hx))
  rw [hls, hcs] at S2 I4
  clear hls hcs HOK R1 R2 zb hr0 r3 e1 LB0 HSL HBL HSW HW
  go_upto_region 5 with fail
  have c0 := LB1.out.c0
  have c1 := LB1.out.c1
  have d0 := LB1.out.d0
  have d1 := LB1.out.d1
  have d2 := LB1.out.d2
  have d3 := LB1.out.d3
  have z1 : w.heap.size + 1 < w1.heap.size := LB1.out.lt
  have z0 : w.heap.size < w1.heap.size := by omega
  go_cut [6, 7] from 21 to 28 (fun p q W => Got w1 ok ls cs p q W ∧ LB w (.slice A n c) (.slice B m d) b W ∧ w1.heap.size ≤ W.heap.size)
  case first =>
    have K1 := Lib.hid (LB1.out.step (Ext.refl w1).drew)
    have E := Lib.hid ((Ext.refl w1).drew)
    have s0 := Lib.hid c0
    have s1 := Lib.hid c1
    have s2 := Lib.hid d0
    have s3 := Lib.hid d1
    have s4 := Lib.hid d2
    have s5 := Lib.hid d3
    refine wp_region_held_drew (S := (fun w' => w'.cell? ⟨w.heap.size, 0, none⟩ = some (.slice A n c) ∧ w'.cell? ⟨w.heap.size, 1, none⟩ = some (.slice B m d) ∧ w'.cell? ⟨w.heap.size + 1, 0, none⟩ = some (.int .i64 b.A) ∧ w'.cell? ⟨w.heap.size + 1, 1, none⟩ = some (.int .i64 b.X) ∧ w'.cell? ⟨w.heap.size + 1, 2, none⟩ = some (.int .i64 b.B) ∧ w'.cell? ⟨w.heap.size + 1, 3, none⟩ = some (.int .i64 b.Y))) (by kernel_rfl) ?_ (fun hHeld => ?_); (focus ((try dsimp only); (repeat' apply And.intro) <;> first | assumption | exact Ext.cell1 (Ext.drew (Ext.refl _)) (by assumption) | (simp [*, go_sem]; done) | (simp [*, go_sem, World.cell?_alloc_past]; done)))
    (refine wpAnyH_take (i := 0) (v := ?_) rfl (by kernel_rfl) (by kernel_rfl) (by kernel_rfl) (fun _ _ _ h => h) (Or.inl ⟨by rfl, ?_⟩) (by assumption) ?_); rotate_left 1; (focus (intro w hSw; (try dsimp only at hSw); go_simp; (try with_reducible rfl))); (try simp only [Act.put, List.setIfInBounds_toArray, List.set_cons_zero, List.set_cons_succ]); (refine wpAnyH_take (i := 2) (v := ?_) rfl (by kernel_rfl) (by kernel_rfl) (by kernel_rfl) (fun _ _ _ h => h) (Or.inl ⟨by rfl, ?_⟩) (by assumption) ?_); rotate_left 1; (focus (intro w hSw; (try dsimp only at hSw); go_simp; (try with_reducible rfl))); (try simp only [Act.put, List.setIfInBounds_toArray, List.set_cons_zero, List.set_cons_succ])
    clear c0 c1 d0 d1 d2 d3
    refine wpAnyH_ready (rs := [1, 8]) (by kernel_rfl) (by simp) ?_; refine AllReadyH.cons rfl (fun K hK => ?_) (AllReadyH.cons rfl (fun K hK => ?_) (AllReadyH.nil))
    focus
      go_simp; (try simp only [Act.put, List.setIfInBounds_toArray, List.set_cons_zero, List.set_cons_succ]); (try go_wp2_with (go_at_call 15; refine (toKindTable_any A n c B m d ss bs _ (T1.out.ext (LB1.out.ext.trans E.out))).mono ?_; rintro e w0a ⟨g1, g2, hg1, hg12, rfl, o1, o2, he1⟩; have T2 := Lib.hid (NewTab.tab (e := .returned (.bool true)) (w' := w0a) T1.out o1 o2); have E0 := Lib.hid (E.out.trans he1); clear o1 o2 he1)); refine hK.out _ _ ?_ (fun hHeld => ?_); (focus exact ⟨E0.out.cell1 s0.out, E0.out.cell1 s1.out, E0.out.cell1 s2.out, E0.out.cell1 s3.out, E0.out.cell1 s4.out, E0.out.cell1 s5.out⟩); clear hK K; (try simp only [Act.put, List.setIfInBounds_toArray, List.set_cons_zero, List.set_cons_succ])
      refine wpAnyH_ready (rs := [3, 8]) (by kernel_rfl) (by simp) ?_; refine AllReadyH.cons rfl (fun K hK => ?_) (AllReadyH.cons rfl (fun K hK => ?_) (AllReadyH.nil))
      focus
        go_simp; (try simp only [Act.put, List.setIfInBounds_toArray, List.set_cons_zero, List.set_cons_succ]); (try go_wp2_with (go_at_call 41; refine (toBan_any b.A b.X b.B b.Y _).mono ?_; rintro e w1a ⟨rfl, he1⟩; have E1 := Lib.hid (E0.out.trans he1); have EB := Lib.hid he1; clear he1)); refine hK.out _ _ ?_ (fun hHeld => ?_); (focus exact ⟨E1.out.cell1 s0.out, E1.out.cell1 s1.out, E1.out.cell1 s2.out, E1.out.cell1 s3.out, E1.out.cell1 s4.out, E1.out.cell1 s5.out⟩); clear hK K; (try simp only [Act.put, List.setIfInBounds_toArray, List.set_cons_zero, List.set_cons_succ])
        have TB := Lib.hid (T2.out.ext (show Ext _ _ from by first | exact EB.out | exact Ext.trans ((Ext.refl _).alloc _) EB.out))
        refine wpAnyH_ready (rs := [4, 8]) (by kernel_rfl) (by simp) ?_; refine AllReadyH.cons rfl (fun K hK => ?_) (AllReadyH.cons rfl (fun K hK => ?_) (AllReadyH.nil))
        focus
          go_simp; (try simp only [Act.put, List.setIfInBounds_toArray, List.set_cons_zero, List.set_cons_succ]); (try go_wp2_with (go_at_call 40; refine (S2.out _ _ _ (by first | exact TB.out | exact TB.out.ext ((Ext.refl _).alloc _))).mono ?_; rintro e w2a ⟨A3, n3, c3, B3, m3, d3, rfl, o3, o4, he1⟩; have E2 := Lib.hid (E1.out.trans he1); have RI := Lib.hid (own_low' o3 (show w1.heap.size ≤ _ from E1.out.size)); have RB := Lib.hid (own_low' o4 (show w1.heap.size ≤ _ from E1.out.size)); clear o3 o4 he1)); refine hK.out _ _ ?_ (fun hHeld => ?_); (focus exact ⟨E2.out.cell1 s0.out, E2.out.cell1 s1.out, E2.out.cell1 s2.out, E2.out.cell1 s3.out, E2.out.cell1 s4.out, E2.out.cell1 s5.out⟩); clear hK K; (try simp only [Act.put, List.setIfInBounds_toArray, List.set_cons_zero, List.set_cons_succ])
          (refine wpAnyH_take (i := 5) (v := ?_) rfl (by kernel_rfl) (by kernel_rfl) (by kernel_rfl) (fun _ _ _ h => h) (Or.inl ⟨by rfl, ?_⟩) (by assumption) ?_); rotate_left 1; (focus (intro w hSw; (try dsimp only at hSw); go_simp; (try with_reducible rfl))); (try simp only [Act.put, List.setIfInBounds_toArray, List.set_cons_zero, List.set_cons_succ]); (refine wpAnyH_take (i := 6) (v := ?_) rfl (by kernel_rfl) (by kernel_rfl) (by kernel_rfl) (fun _ _ _ h => h) (Or.inl ⟨by rfl, ?_⟩) (by assumption) ?_); rotate_left 1; (focus (intro w hSw; (try dsimp only at hSw); go_simp; (try with_reducible rfl))); (try simp only [Act.put, List.setIfInBounds_toArray, List.set_cons_zero, List.set_cons_succ]); (refine wpAnyH_take (i := 7) (v := ?_) rfl (by kernel_rfl) (by kernel_rfl) (by kernel_rfl) (fun _ _ _ h => h) (Or.inl ⟨by rfl, ?_⟩) (by assumption) ?_); rotate_left 1; (focus (intro w hSw; (try dsimp only at hSw); go_simp; (try with_reducible rfl))); (try simp only [Act.put, List.setIfInBounds_toArray, List.set_cons_zero, List.set_cons_succ])
          have E3 := Lib.hid (E2.out.alloc (.cells #[.slice none 0 0, .slice none 0 0] 30))
          refine wpAnyH_ready (rs := [8]) (by kernel_rfl) (by simp) ?_; refine AllReadyH.cons rfl (fun K hK => ?_) AllReadyH.nil; go_simp; (try simp only [Act.put, List.setIfInBounds_toArray, List.set_cons_zero, List.set_cons_succ]); (try go_wp2_with fail); refine hK.out _ _ ?_ (fun hHeld => ?_); (focus exact ⟨E3.out.cell1 s0.out, E3.out.cell1 s1.out, E3.out.cell1 s2.out, E3.out.cell1 s3.out, E3.out.cell1 s4.out, E3.out.cell1 s5.out⟩); clear hK K; (try simp only [Act.put, List.setIfInBounds_toArray, List.set_cons_zero, List.set_cons_succ])
          have BX0 := own_block (w2a) 30 [.slice none 0 0, .slice none 0 0]
          have zx0 : w1.heap.size ≤ (w2a).heap.size := E2.out.size
          (try simp only [World.size_alloc, World.size_drew] at BX0 zx0)
          have BX := Lib.hid (own_low' BX0 zx0)
          clear BX0
          have RI_3 := Lib.hid (((Ext.refl (w2a)).alloc (.cells #[.slice none 0 0, .slice none 0 0] 30)).own RI.out)
          have RB_3 := Lib.hid (((Ext.refl (w2a)).alloc (.cells #[.slice none 0 0, .slice none 0 0] 30)).own RB.out)
          obtain ⟨k0, gx⟩ := own_setCells [.slice A3 n3 c3, .slice B3 m3 d3] 0 _ _ BX.out
          have zx := (BX.out.lt _ rfl).1
          have EF := Lib.hid (E3.out)
          refine wpAnyH_ready (rs := [9]) (by kernel_rfl) (by simp) ?_; refine AllReadyH.cons rfl (fun K hK => ?_) AllReadyH.nil; refine step_store rfl 30 (.tmp 6) (.tmp 27) rfl w2a.heap.size 0 [.slice A3 n3 c3, .slice B3 m3 d3] rfl rfl (own_there BX.out 0 2 (by simp)) sizeTab rfl rfl ?_; (try simp only [Act.put, List.setIfInBounds_toArray, List.set_cons_zero, List.set_cons_succ]); refine hK.out _ _ ?_ (fun hHeld => ?_); (focus exact ⟨grown_cell (A := some ⟨w2a.heap.size, 0, none⟩) (m := 0) (c := 0) gx (Off.ne (by omega)) (EF.out.cell1 s0.out), grown_cell (A := some ⟨w2a.heap.size, 0, none⟩) (m := 0) (c := 0) gx (Off.ne (by omega)) (EF.out.cell1 s1.out), grown_cell (A := some ⟨w2a.heap.size, 0, none⟩) (m := 0) (c := 0) gx (Off.ne (by omega)) (EF.out.cell1 s2.out), grown_cell (A := some ⟨w2a.heap.size, 0, none⟩) (m := 0) (c := 0) gx (Off.ne (by omega)) (EF.out.cell1 s3.out), grown_cell (A := some ⟨w2a.heap.size, 0, none⟩) (m := 0) (c := 0) gx (Off.ne (by omega)) (EF.out.cell1 s4.out), grown_cell (A := some ⟨w2a.heap.size, 0, none⟩) (m := 0) (c := 0) gx (Off.ne (by omega)) (EF.out.cell1 s5.out)⟩); clear hK K; (try simp only [Act.put, List.setIfInBounds_toArray, List.set_cons_zero, List.set_cons_succ])
          (refine wpAnyH_take (i := 10) (v := ?_) rfl (by kernel_rfl) (by kernel_rfl) (by kernel_rfl) (fun _ _ _ h => h) (Or.inl ⟨by rfl, ?_⟩) (by assumption) ?_); rotate_left 1; (focus (intro w hSw; (try dsimp only at hSw); go_simp; (try with_reducible rfl))); (try simp only [Act.put, List.setIfInBounds_toArray, List.set_cons_zero, List.set_cons_succ])
          refine wpAnyH_done (by kernel_rfl) ?_ _
          have RIF := Lib.hid (RI_3.out.kept gx (own_types RI_3.out BX.out intTab))
          have RBF := Lib.hid (RB_3.out.kept gx (own_types RB_3.out BX.out banTab))
          have GX := Lib.hid gx
          have BXF := Lib.hid k0
          have ZX : w1.heap.size ≤ w2a.heap.size := zx
          clear k0 gx zx
          obtain ⟨W5, hW5⟩ : ∃ W5, (w2a.alloc (.cells #[.slice none 0 0, .slice none 0 0] 30)).setCells w2a.heap.size 0 [.slice A3 n3 c3, .slice B3 m3 d3] = W5 := ⟨_, rfl⟩
          rw [hW5] at RIF RBF BXF GX
          rw [hW5]
          clear hW5
        rotate_left 1
        focus
          have E4 := Lib.hid (E1.out.alloc (.cells #[.slice none 0 0, .slice none 0 0] 30))
          go_simp; (try simp only [Act.put, List.setIfInBounds_toArray, List.set_cons_zero, List.set_cons_succ]); (try go_wp2_with fail); refine hK.out _ _ ?_ (fun hHeld => ?_); (focus exact ⟨E4.out.cell1 s0.out, E4.out.cell1 s1.out, E4.out.cell1 s2.out, E4.out.cell1 s3.out, E4.out.cell1 s4.out, E4.out.cell1 s5.out⟩); clear hK K; (try simp only [Act.put, List.setIfInBounds_toArray, List.set_cons_zero, List.set_cons_succ])
          have BX0 := own_block (w1a) 30 [.slice none 0 0, .slice none 0 0]
          have zx0 : w1.heap.size ≤ (w1a).heap.size := E1.out.size
          (try simp only [World.size_alloc, World.size_drew] at BX0 zx0)
          have BX := Lib.hid (own_low' BX0 zx0)
          clear BX0
          refine wpAnyH_ready (rs := [4]) (by kernel_rfl) (by simp) ?_; refine AllReadyH.cons rfl (fun K hK => ?_) AllReadyH.nil; go_simp; (try simp only [Act.put, List.setIfInBounds_toArray, List.set_cons_zero, List.set_cons_succ]); (try go_wp2_with (go_at_call 40; refine (S2.out _ _ _ (by first | exact TB.out | exact TB.out.ext ((Ext.refl _).alloc _))).mono ?_; rintro e w5a ⟨A3, n3, c3, B3, m3, d3, rfl, o3, o4, he1⟩; have E5 := Lib.hid (E4.out.trans he1); have BX_5 := Lib.hid (he1.own BX.out); have RI := Lib.hid (own_low' o3 (show w1.heap.size ≤ _ from E4.out.size)); have RB := Lib.hid (own_low' o4 (show w1.heap.size ≤ _ from E4.out.size)); clear o3 o4 he1)); refine hK.out _ _ ?_ (fun hHeld => ?_); (focus exact ⟨E5.out.cell1 s0.out, E5.out.cell1 s1.out, E5.out.cell1 s2.out, E5.out.cell1 s3.out, E5.out.cell1 s4.out, E5.out.cell1 s5.out⟩); clear hK K; (try simp only [Act.put, List.setIfInBounds_toArray, List.set_cons_zero, List.set_cons_succ])
          (refine wpAnyH_take (i := 5) (v := ?_) rfl (by kernel_rfl) (by kernel_rfl) (by kernel_rfl) (fun _ _ _ h => h) (Or.inl ⟨by rfl, ?_⟩) (by assumption) ?_); rotate_left 1; (focus (intro w hSw; (try dsimp only at hSw); go_simp; (try with_reducible rfl))); (try simp only [Act.put, List.setIfInBounds_toArray, List.set_cons_zero, List.set_cons_succ]); (refine wpAnyH_take (i := 6) (v := ?_) rfl (by kernel_rfl) (by kernel_rfl) (by kernel_rfl) (fun _ _ _ h => h) (Or.inl ⟨by rfl, ?_⟩) (by assumption) ?_); rotate_left 1; (focus (intro w hSw; (try dsimp only at hSw); go_simp; (try with_reducible rfl))); (try simp only [Act.put, List.setIfInBounds_toArray, List.set_cons_zero, List.set_cons_succ]); (refine wpAnyH_take (i := 7) (v := ?_) rfl (by kernel_rfl) (by kernel_rfl) (by kernel_rfl) (fun _ _ _ h => h) (Or.inl ⟨by rfl, ?_⟩) (by assumption) ?_); rotate_left 1; (focus (intro w hSw; (try dsimp only at hSw); go_simp; (try with_reducible rfl))); (try simp only [Act.put, List.setIfInBounds_toArray, List.set_cons_zero, List.set_cons_succ])
          obtain ⟨k0, gx⟩ := own_setCells [.slice A3 n3 c3, .slice B3 m3 d3] 0 _ _ BX_5.out
          have zx := (BX_5.out.lt _ rfl).1
          have EF := Lib.hid (E5.out)
          refine wpAnyH_ready (rs := [9]) (by kernel_rfl) (by simp) ?_; refine AllReadyH.cons rfl (fun K hK => ?_) AllReadyH.nil; refine step_store rfl 30 (.tmp 6) (.tmp 27) rfl w1a.heap.size 0 [.slice A3 n3 c3, .slice B3 m3 d3] rfl rfl (own_there BX_5.out 0 2 (by simp)) sizeTab rfl rfl ?_; (try simp only [Act.put, List.setIfInBounds_toArray, List.set_cons_zero, List.set_cons_succ]); refine hK.out _ _ ?_ (fun hHeld => ?_); (focus exact ⟨grown_cell (A := some ⟨w1a.heap.size, 0, none⟩) (m := 0) (c := 0) gx (Off.ne (by omega)) (EF.out.cell1 s0.out), grown_cell (A := some ⟨w1a.heap.size, 0, none⟩) (m := 0) (c := 0) gx (Off.ne (by omega)) (EF.out.cell1 s1.out), grown_cell (A := some ⟨w1a.heap.size, 0, none⟩) (m := 0) (c := 0) gx (Off.ne (by omega)) (EF.out.cell1 s2.out), grown_cell (A := some ⟨w1a.heap.size, 0, none⟩) (m := 0) (c := 0) gx (Off.ne (by omega)) (EF.out.cell1 s3.out), grown_cell (A := some ⟨w1a.heap.size, 0, none⟩) (m := 0) (c := 0) gx (Off.ne (by omega)) (EF.out.cell1 s4.out), grown_cell (A := some ⟨w1a.heap.size, 0, none⟩) (m := 0) (c := 0) gx (Off.ne (by omega)) (EF.out.cell1 s5.out)⟩); clear hK K; (try simp only [Act.put, List.setIfInBounds_toArray, List.set_cons_zero, List.set_cons_succ])
          (refine wpAnyH_take (i := 10) (v := ?_) rfl (by kernel_rfl) (by kernel_rfl) (by kernel_rfl) (fun _ _ _ h => h) (Or.inl ⟨by rfl, ?_⟩) (by assumption) ?_); rotate_left 1; (focus (intro w hSw; (try dsimp only at hSw); go_simp; (try with_reducible rfl))); (try simp only [Act.put, List.setIfInBounds_toArray, List.set_cons_zero, List.set_cons_succ])
          refine wpAnyH_done (by kernel_rfl) ?_ _
          have RIF := Lib.hid (RI.out.kept gx (own_types RI.out BX_5.out intTab))
          have RBF := Lib.hid (RB.out.kept gx (own_types RB.out BX_5.out banTab))
          have GX := Lib.hid gx
          have BXF := Lib.hid k0
          have ZX : w1.heap.size ≤ w1a.heap.size := zx
          clear k0 gx zx
          obtain ⟨W5, hW5⟩ : ∃ W5, w5a.setCells w1a.heap.size 0 [.slice A3 n3 c3, .slice B3 m3 d3] = W5 := ⟨_, rfl⟩
          rw [hW5] at RIF RBF BXF GX
          rw [hW5]
          clear hW5
        rotate_left 1
      rotate_left 2
      focus
        have E6 := Lib.hid (E0.out.alloc (.cells #[.slice none 0 0, .slice none 0 0] 30))
        go_simp; (try simp only [Act.put, List.setIfInBounds_toArray, List.set_cons_zero, List.set_cons_succ]); (try go_wp2_with fail); refine hK.out _ _ ?_ (fun hHeld => ?_); (focus exact ⟨E6.out.cell1 s0.out, E6.out.cell1 s1.out, E6.out.cell1 s2.out, E6.out.cell1 s3.out, E6.out.cell1 s4.out, E6.out.cell1 s5.out⟩); clear hK K; (try simp only [Act.put, List.setIfInBounds_toArray, List.set_cons_zero, List.set_cons_succ])
        have BX0 := own_block (w0a) 30 [.slice none 0 0, .slice none 0 0]
        have zx0 : w1.heap.size ≤ (w0a).heap.size := E0.out.size
        (try simp only [World.size_alloc, World.size_drew] at BX0 zx0)
        have BX := Lib.hid (own_low' BX0 zx0)
        clear BX0
        refine wpAnyH_ready (rs := [3]) (by kernel_rfl) (by simp) ?_; refine AllReadyH.cons rfl (fun K hK => ?_) AllReadyH.nil; go_simp; (try simp only [Act.put, List.setIfInBounds_toArray, List.set_cons_zero, List.set_cons_succ]); (try go_wp2_with (go_at_call 41; refine (toBan_any b.A b.X b.B b.Y _).mono ?_; rintro e w7a ⟨rfl, he1⟩; have E7 := Lib.hid (E6.out.trans he1); have BX_7 := Lib.hid (he1.own BX.out); have EB := Lib.hid he1; clear he1)); refine hK.out _ _ ?_ (fun hHeld => ?_); (focus exact ⟨E7.out.cell1 s0.out, E7.out.cell1 s1.out, E7.out.cell1 s2.out, E7.out.cell1 s3.out, E7.out.cell1 s4.out, E7.out.cell1 s5.out⟩); clear hK K; (try simp only [Act.put, List.setIfInBounds_toArray, List.set_cons_zero, List.set_cons_succ])
        have TB := Lib.hid (T2.out.ext (show Ext _ _ from by first | exact EB.out | exact Ext.trans ((Ext.refl _).alloc _) EB.out))
        refine wpAnyH_ready (rs := [4]) (by kernel_rfl) (by simp) ?_; refine AllReadyH.cons rfl (fun K hK => ?_) AllReadyH.nil; go_simp; (try simp only [Act.put, List.setIfInBounds_toArray, List.set_cons_zero, List.set_cons_succ]); (try go_wp2_with (go_at_call 40; refine (S2.out _ _ _ (by first | exact TB.out | exact TB.out.ext ((Ext.refl _).alloc _))).mono ?_; rintro e w8a ⟨A3, n3, c3, B3, m3, d3, rfl, o3, o4, he1⟩; have E8 := Lib.hid (E7.out.trans he1); have BX_8 := Lib.hid (he1.own BX_7.out); have RI := Lib.hid (own_low' o3 (show w1.heap.size ≤ _ from E7.out.size)); have RB := Lib.hid (own_low' o4 (show w1.heap.size ≤ _ from E7.out.size)); clear o3 o4 he1)); refine hK.out _ _ ?_ (fun hHeld => ?_); (focus exact ⟨E8.out.cell1 s0.out, E8.out.cell1 s1.out, E8.out.cell1 s2.out, E8.out.cell1 s3.out, E8.out.cell1 s4.out, E8.out.cell1 s5.out⟩); clear hK K; (try simp only [Act.put, List.setIfInBounds_toArray, List.set_cons_zero, List.set_cons_succ])
        (refine wpAnyH_take (i := 5) (v := ?_) rfl (by kernel_rfl) (by kernel_rfl) (by kernel_rfl) (fun _ _ _ h => h) (Or.inl ⟨by rfl, ?_⟩) (by assumption) ?_); rotate_left 1; (focus (intro w hSw; (try dsimp only at hSw); go_simp; (try with_reducible rfl))); (try simp only [Act.put, List.setIfInBounds_toArray, List.set_cons_zero, List.set_cons_succ]); (refine wpAnyH_take (i := 6) (v := ?_) rfl (by kernel_rfl) (by kernel_rfl) (by kernel_rfl) (fun _ _ _ h => h) (Or.inl ⟨by rfl, ?_⟩) (by assumption) ?_); rotate_left 1; (focus (intro w hSw; (try dsimp only at hSw); go_simp; (try with_reducible rfl))); (try simp only [Act.put, List.setIfInBounds_toArray, List.set_cons_zero, List.set_cons_succ]); (refine wpAnyH_take (i := 7) (v := ?_) rfl (by kernel_rfl) (by kernel_rfl) (by kernel_rfl) (fun _ _ _ h => h) (Or.inl ⟨by rfl, ?_⟩) (by assumption) ?_); rotate_left 1; (focus (intro w hSw; (try dsimp only at hSw); go_simp; (try with_reducible rfl))); (try simp only [Act.put, List.setIfInBounds_toArray, List.set_cons_zero, List.set_cons_succ])
        obtain ⟨k0, gx⟩ := own_setCells [.slice A3 n3 c3, .slice B3 m3 d3] 0 _ _ BX_8.out
        have zx := (BX_8.out.lt _ rfl).1
        have EF := Lib.hid (E8.out)
        refine wpAnyH_ready (rs := [9]) (by kernel_rfl) (by simp) ?_; refine AllReadyH.cons rfl (fun K hK => ?_) AllReadyH.nil; refine step_store rfl 30 (.tmp 6) (.tmp 27) rfl w0a.heap.size 0 [.slice A3 n3 c3, .slice B3 m3 d3] rfl rfl (own_there BX_8.out 0 2 (by simp)) sizeTab rfl rfl ?_; (try simp only [Act.put, List.setIfInBounds_toArray, List.set_cons_zero, List.set_cons_succ]); refine hK.out _ _ ?_ (fun hHeld => ?_); (focus exact ⟨grown_cell (A := some ⟨w0a.heap.size, 0, none⟩) (m := 0) (c := 0) gx (Off.ne (by omega)) (EF.out.cell1 s0.out), grown_cell (A := some ⟨w0a.heap.size, 0, none⟩) (m := 0) (c := 0) gx (Off.ne (by omega)) (EF.out.cell1 s1.out), grown_cell (A := some ⟨w0a.heap.size, 0, none⟩) (m := 0) (c := 0) gx (Off.ne (by omega)) (EF.out.cell1 s2.out), grown_cell (A := some ⟨w0a.heap.size, 0, none⟩) (m := 0) (c := 0) gx (Off.ne (by omega)) (EF.out.cell1 s3.out), grown_cell (A := some ⟨w0a.heap.size, 0, none⟩) (m := 0) (c := 0) gx (Off.ne (by omega)) (EF.out.cell1 s4.out), grown_cell (A := some ⟨w0a.heap.size, 0, none⟩) (m := 0) (c := 0) gx (Off.ne (by omega)) (EF.out.cell1 s5.out)⟩); clear hK K; (try simp only [Act.put, List.setIfInBounds_toArray, List.set_cons_zero, List.set_cons_succ])
        (refine wpAnyH_take (i := 10) (v := ?_) rfl (by kernel_rfl) (by kernel_rfl) (by kernel_rfl) (fun _ _ _ h => h) (Or.inl ⟨by rfl, ?_⟩) (by assumption) ?_); rotate_left 1; (focus (intro w hSw; (try dsimp only at hSw); go_simp; (try with_reducible rfl))); (try simp only [Act.put, List.setIfInBounds_toArray, List.set_cons_zero, List.set_cons_succ])
        refine wpAnyH_done (by kernel_rfl) ?_ _
        have RIF := Lib.hid (RI.out.kept gx (own_types RI.out BX_8.out intTab))
        have RBF := Lib.hid (RB.out.kept gx (own_types RB.out BX_8.out banTab))
        have GX := Lib.hid gx
        have BXF := Lib.hid k0
        have ZX : w1.heap.size ≤ w0a.heap.size := zx
        clear k0 gx zx
        obtain ⟨W5, hW5⟩ : ∃ W5, w8a.setCells w0a.heap.size 0 [.slice A3 n3 c3, .slice B3 m3 d3] = W5 := ⟨_, rfl⟩
        rw [hW5] at RIF RBF BXF GX
        rw [hW5]
        clear hW5
      rotate_left 1
    rotate_left 3
    focus
      have E9 := Lib.hid (E.out.alloc (.cells #[.slice none 0 0, .slice none 0 0] 30))
      go_simp; (try simp only [Act.put, List.setIfInBounds_toArray, List.set_cons_zero, List.set_cons_succ]); (try go_wp2_with fail); refine hK.out _ _ ?_ (fun hHeld => ?_); (focus exact ⟨E9.out.cell1 s0.out, E9.out.cell1 s1.out, E9.out.cell1 s2.out, E9.out.cell1 s3.out, E9.out.cell1 s4.out, E9.out.cell1 s5.out⟩); clear hK K; (try simp only [Act.put, List.setIfInBounds_toArray, List.set_cons_zero, List.set_cons_succ])
      have BX0 := own_block (w1.drew) 30 [.slice none 0 0, .slice none 0 0]
      have zx0 : w1.heap.size ≤ (w1.drew).heap.size := E.out.size
      (try simp only [World.size_alloc, World.size_drew] at BX0 zx0)
      have BX := Lib.hid (own_low' BX0 zx0)
      clear BX0
      refine wpAnyH_ready (rs := [1]) (by kernel_rfl) (by simp) ?_; refine AllReadyH.cons rfl (fun K hK => ?_) AllReadyH.nil; go_simp; (try simp only [Act.put, List.setIfInBounds_toArray, List.set_cons_zero, List.set_cons_succ]); (try go_wp2_with (go_at_call 15; refine (toKindTable_any A n c B m d ss bs _ (T1.out.ext (LB1.out.ext.trans E9.out))).mono ?_; rintro e w10a ⟨g1, g2, hg1, hg12, rfl, o1, o2, he1⟩; have T2 := Lib.hid (NewTab.tab (e := .returned (.bool true)) (w' := w10a) T1.out o1 o2); have E10 := Lib.hid (E9.out.trans he1); have BX_10 := Lib.hid (he1.own BX.out); clear o1 o2 he1)); refine hK.out _ _ ?_ (fun hHeld => ?_); (focus exact ⟨E10.out.cell1 s0.out, E10.out.cell1 s1.out, E10.out.cell1 s2.out, E10.out.cell1 s3.out, E10.out.cell1 s4.out, E10.out.cell1 s5.out⟩); clear hK K; (try simp only [Act.put, List.setIfInBounds_toArray, List.set_cons_zero, List.set_cons_succ])
      refine wpAnyH_ready (rs := [3]) (by kernel_rfl) (by simp) ?_; refine AllReadyH.cons rfl (fun K hK => ?_) AllReadyH.nil; go_simp; (try simp only [Act.put, List.setIfInBounds_toArray, List.set_cons_zero, List.set_cons_succ]); (try go_wp2_with (go_at_call 41; refine (toBan_any b.A b.X b.B b.Y _).mono ?_; rintro e w11a ⟨rfl, he1⟩; have E11 := Lib.hid (E10.out.trans he1); have BX_11 := Lib.hid (he1.own BX_10.out); have EB := Lib.hid he1; clear he1)); refine hK.out _ _ ?_ (fun hHeld => ?_); (focus exact ⟨E11.out.cell1 s0.out, E11.out.cell1 s1.out, E11.out.cell1 s2.out, E11.out.cell1 s3.out, E11.out.cell1 s4.out, E11.out.cell1 s5.out⟩); clear hK K; (try simp only [Act.put, List.setIfInBounds_toArray, List.set_cons_zero, List.set_cons_succ])
      have TB := Lib.hid (T2.out.ext (show Ext _ _ from by first | exact EB.out | exact Ext.trans ((Ext.refl _).alloc _) EB.out))
      refine wpAnyH_ready (rs := [4]) (by kernel_rfl) (by simp) ?_; refine AllReadyH.cons rfl (fun K hK => ?_) AllReadyH.nil; go_simp; (try simp only [Act.put, List.setIfInBounds_toArray, List.set_cons_zero, List.set_cons_succ]); (try go_wp2_with (go_at_call 40; refine (S2.out _ _ _ (by first | exact TB.out | exact TB.out.ext ((Ext.refl _).alloc _))).mono ?_; rintro e w12a ⟨A3, n3, c3, B3, m3, d3, rfl, o3, o4, he1⟩; have E12 := Lib.hid (E11.out.trans he1); have BX_12 := Lib.hid (he1.own BX_11.out); have RI := Lib.hid (own_low' o3 (show w1.heap.size ≤ _ from E11.out.size)); have RB := Lib.hid (own_low' o4 (show w1.heap.size ≤ _ from E11.out.size)); clear o3 o4 he1)); refine hK.out _ _ ?_ (fun hHeld => ?_); (focus exact ⟨E12.out.cell1 s0.out, E12.out.cell1 s1.out, E12.out.cell1 s2.out, E12.out.cell1 s3.out, E12.out.cell1 s4.out, E12.out.cell1 s5.out⟩); clear hK K; (try simp only [Act.put, List.setIfInBounds_toArray, List.set_cons_zero, List.set_cons_succ])
      (refine wpAnyH_take (i := 5) (v := ?_) rfl (by kernel_rfl) (by kernel_rfl) (by kernel_rfl) (fun _ _ _ h => h) (Or.inl ⟨by rfl, ?_⟩) (by assumption) ?_); rotate_left 1; (focus (intro w hSw; (try dsimp only at hSw); go_simp; (try with_reducible rfl))); (try simp only [Act.put, List.setIfInBounds_toArray, List.set_cons_zero, List.set_cons_succ]); (refine wpAnyH_take (i := 6) (v := ?_) rfl (by kernel_rfl) (by kernel_rfl) (by kernel_rfl) (fun _ _ _ h => h) (Or.inl ⟨by rfl, ?_⟩) (by assumption) ?_); rotate_left 1; (focus (intro w hSw; (try dsimp only at hSw); go_simp; (try with_reducible rfl))); (try simp only [Act.put, List.setIfInBounds_toArray, List.set_cons_zero, List.set_cons_succ]); (refine wpAnyH_take (i := 7) (v := ?_) rfl (by kernel_rfl) (by kernel_rfl) (by kernel_rfl) (fun _ _ _ h => h) (Or.inl ⟨by rfl, ?_⟩) (by assumption) ?_); rotate_left 1; (focus (intro w hSw; (try dsimp only at hSw); go_simp; (try with_reducible rfl))); (try simp only [Act.put, List.setIfInBounds_toArray, List.set_cons_zero, List.set_cons_succ])
      obtain ⟨k0, gx⟩ := own_setCells [.slice A3 n3 c3, .slice B3 m3 d3] 0 _ _ BX_12.out
      have zx := (BX_12.out.lt _ rfl).1
      have EF := Lib.hid (E12.out)
      refine wpAnyH_ready (rs := [9]) (by kernel_rfl) (by simp) ?_; refine AllReadyH.cons rfl (fun K hK => ?_) AllReadyH.nil; refine step_store rfl 30 (.tmp 6) (.tmp 27) rfl w1.heap.size 0 [.slice A3 n3 c3, .slice B3 m3 d3] rfl rfl (own_there BX_12.out 0 2 (by simp)) sizeTab rfl rfl ?_; (try simp only [Act.put, List.setIfInBounds_toArray, List.set_cons_zero, List.set_cons_succ]); refine hK.out _ _ ?_ (fun hHeld => ?_); (focus exact ⟨grown_cell (A := some ⟨w1.heap.size, 0, none⟩) (m := 0) (c := 0) gx (Off.ne (by omega)) (EF.out.cell1 s0.out), grown_cell (A := some ⟨w1.heap.size, 0, none⟩) (m := 0) (c := 0) gx (Off.ne (by omega)) (EF.out.cell1 s1.out), grown_cell (A := some ⟨w1.heap.size, 0, none⟩) (m := 0) (c := 0) gx (Off.ne (by omega)) (EF.out.cell1 s2.out), grown_cell (A := some ⟨w1.heap.size, 0, none⟩) (m := 0) (c := 0) gx (Off.ne (by omega)) (EF.out.cell1 s3.out), grown_cell (A := some ⟨w1.heap.size, 0, none⟩) (m := 0) (c := 0) gx (Off.ne (by omega)) (EF.out.cell1 s4.out), grown_cell (A := some ⟨w1.heap.size, 0, none⟩) (m := 0) (c := 0) gx (Off.ne (by omega)) (EF.out.cell1 s5.out)⟩); clear hK K; (try simp only [Act.put, List.setIfInBounds_toArray, List.set_cons_zero, List.set_cons_succ])
      (refine wpAnyH_take (i := 10) (v := ?_) rfl (by kernel_rfl) (by kernel_rfl) (by kernel_rfl) (fun _ _ _ h => h) (Or.inl ⟨by rfl, ?_⟩) (by assumption) ?_); rotate_left 1; (focus (intro w hSw; (try dsimp only at hSw); go_simp; (try with_reducible rfl))); (try simp only [Act.put, List.setIfInBounds_toArray, List.set_cons_zero, List.set_cons_succ])
      refine wpAnyH_done (by kernel_rfl) ?_ _
      have RIF := Lib.hid (RI.out.kept gx (own_types RI.out BX_12.out intTab))
      have RBF := Lib.hid (RB.out.kept gx (own_types RB.out BX_12.out banTab))
      have GX := Lib.hid gx
      have BXF := Lib.hid k0
      have ZX : w1.heap.size ≤ w1.heap.size := zx
      clear k0 gx zx
      obtain ⟨W5, hW5⟩ : ∃ W5, w12a.setCells w1.heap.size 0 [.slice A3 n3 c3, .slice B3 m3 d3] = W5 := ⟨_, rfl⟩
      rw [hW5] at RIF RBF BXF GX
      rw [hW5]
      clear hW5
    rotate_left 1
    all_goals
      obtain rfl : n3 = ls.length := by have := RIF.out.1; rw [ints_length] at this; omega
      obtain rfl : m3 = cs.length := by have := RBF.out.1; rw [bans_len] at this; omega
      (try simp only [List.getElem_toArray, List.getElem_cons_succ, List.getElem_cons_zero, List.setIfInBounds_toArray, List.set_cons_succ, List.set_cons_zero])
      go_wp2
      go_meet
      exact ⟨⟨_, A3, c3, B3, d3, rfl, rfl, ⟨BXF.out, RIF.out, RBF.out, (BXF.out.lt _ rfl).2, fun k hk => (RIF.out.lt k hk).2, fun k hk => (RBF.out.lt k hk).2⟩⟩, (LB1.out.step EF.out).row GX.out (by omega), Nat.le_trans EF.out.size GX.out.size⟩
  case rest =>
    obtain ⟨⟨x6, A6, c6, B6, d6, rfl, rfl, ts⟩, lb2, zz⟩ := hcut
    have LB2 := Lib.hid lb2
    have TS := Lib.hid ts
    rename World => w2
    have zs6 : x6 < w2.heap.size := ts.ux
    clear LB1 c0 c1 d0 d1 d2 d3 ts lb2
    have c0 := LB2.out.c0
    have c1 := LB2.out.c1
    have z1 : w.heap.size + 1 < w2.heap.size := LB2.out.lt
    have z0 : w.heap.size < w2.heap.size := by omega
    go_wp2_with fail
    refine (toKindTable_any A n c B m d ss bs _ (T1.out.ext LB2.out.ext)).mono ?_
    rintro e w4 ⟨g3, g4, hg3, hg34, rfl, o5a, o5b, e4⟩
    have z4 : w2.heap.size ≤ w4.heap.size := e4.size
    have e8 := (Ext.refl w4).alloc (.cells #[.slice (some ⟨g3, 0, none⟩) n n, .slice (some ⟨g4, 0, none⟩) m m] 30)
    have TX := Lib.hid (show Tb (w4.alloc (.cells #[.slice (some ⟨g3, 0, none⟩) n n, .slice (some ⟨g4, 0, none⟩) m m] 30)) w2.heap.size (w4.heap.size + 1) w4.heap.size (some ⟨g3, 0, none⟩) n n (some ⟨g4, 0, none⟩) m m (ints ss) (bs.flatMap Ban.cs) from
      ⟨own_low' (own_block w4 30 [.slice (some ⟨g3, 0, none⟩) n n, .slice (some ⟨g4, 0, none⟩) m m]) z4, o5a.alloc _, o5b.alloc _, by omega, fun k hk => by have := (o5a.lt k hk).2; omega, fun k hk => by have := (o5b.lt k hk).2; omega⟩)
    have LB8 := Lib.hid (LB2.out.step (e4.trans e8))
    have TS8 := Lib.hid (TS.out.step (e4.trans e8))
    clear o5a o5b e4 e8 c0 c1 LB2 TS
    obtain ⟨w8, hw8⟩ : ∃ w8, w4.alloc (.cells #[.slice (some ⟨g3, 0, none⟩) n n, .slice (some ⟨g4, 0, none⟩) m m] 30) = w8 := ⟨_, rfl⟩
    obtain ⟨x8, hx8⟩ : ∃ x8, w4.heap.size = x8 := ⟨_, rfl⟩
    obtain ⟨h8, hh8⟩ : ∃ h8, w4.heap.size + 1 = h8 := ⟨_, rfl⟩
    have hh9 : h8 = w8.heap.size := by rw [← hw8, ← hh8]; simp
    rw [hw8, hh8, hx8] at TX
    rw [hw8] at LB8 TS8
    go_upto_region 7 with fail
    try rw [hw8, hx8]
    clear hw8 hx8 hh8
    subst hh9
    have d0 := LB8.out.d0
    have d1 := LB8.out.d1
    have d2 := LB8.out.d2
    have d3 := LB8.out.d3
    have t0 := TX.out.c0
    have t1 := TX.out.c1
    have z1 : w.heap.size + 1 < w8.heap.size := LB8.out.lt
    have zx8 : x8 < w8.heap.size := TX.out.ux
    have z8 : w2.heap.size ≤ w8.heap.size := by have := TX.out.lo_x; omega
    have TX4 := Lib.hid (show TabL w8 (some ⟨g3, 0, none⟩) n (some ⟨g4, 0, none⟩) m ss bs from TX.out.tab (by omega) (by omega) T1.out.sw T1.out.bl.wf)
    go_cut [9, 10] from 31 to 37 (fun p q W => Got w8 ok ls cs p q W ∧ LB w (.slice A n c) (.slice B m d) b W ∧ Tb W w1.heap.size w2.heap.size x6 A6 ls.length c6 B6 cs.length d6 (ints ls) (cs.flatMap Ban.cs) ∧ Tb W w2.heap.size w8.heap.size x8 (some ⟨g3, 0, none⟩) n n (some ⟨g4, 0, none⟩) m m (ints ss) (bs.flatMap Ban.cs) ∧ w8.heap.size ≤ W.heap.size)
    case first =>
      have E := Lib.hid ((Ext.refl w8).drew)
      have s0 := Lib.hid t0
      have s1 := Lib.hid t1
      have s2 := Lib.hid d0
      have s3 := Lib.hid d1
      have s4 := Lib.hid d2
      have s5 := Lib.hid d3
      refine wp_region_held_drew (S := (fun w' => w'.cell? ⟨x8, 0, none⟩ = some (.slice (some ⟨g3, 0, none⟩) n n) ∧ w'.cell? ⟨x8, 1, none⟩ = some (.slice (some ⟨g4, 0, none⟩) m m) ∧ w'.cell? ⟨w.heap.size + 1, 0, none⟩ = some (.int .i64 b.A) ∧ w'.cell? ⟨w.heap.size + 1, 1, none⟩ = some (.int .i64 b.X) ∧ w'.cell? ⟨w.heap.size + 1, 2, none⟩ = some (.int .i64 b.B) ∧ w'.cell? ⟨w.heap.size + 1, 3, none⟩ = some (.int .i64 b.Y))) (by kernel_rfl) ?_ (fun hHeld => ?_); (focus ((try dsimp only); (repeat' apply And.intro) <;> first | assumption | exact Ext.cell1 (Ext.drew (Ext.refl _)) (by assumption) | (simp [*, go_sem]; done) | (simp [*, go_sem, World.cell?_alloc_past]; done)))
      (refine wpAnyH_take (i := 0) (v := ?_) rfl (by kernel_rfl) (by kernel_rfl) (by kernel_rfl) (fun _ _ _ h => h) (Or.inl ⟨by rfl, ?_⟩) (by assumption) ?_); rotate_left 1; (focus (intro w hSw; (try dsimp only at hSw); go_simp; (try with_reducible rfl))); (try simp only [Act.put, List.setIfInBounds_toArray, List.set_cons_zero, List.set_cons_succ]); (refine wpAnyH_take (i := 1) (v := ?_) rfl (by kernel_rfl) (by kernel_rfl) (by kernel_rfl) (fun _ _ _ h => h) (Or.inl ⟨by rfl, ?_⟩) (by assumption) ?_); rotate_left 1; (focus (intro w hSw; (try dsimp only at hSw); go_simp; (try with_reducible rfl))); (try simp only [Act.put, List.setIfInBounds_toArray, List.set_cons_zero, List.set_cons_succ])
      clear t0 t1 d0 d1 d2 d3
      refine wpAnyH_ready (rs := [2, 7]) (by kernel_rfl) (by simp) ?_; refine AllReadyH.cons rfl (fun K hK => ?_) (AllReadyH.cons rfl (fun K hK => ?_) (AllReadyH.nil))
      focus
        go_simp; (try simp only [Act.put, List.setIfInBounds_toArray, List.set_cons_zero, List.set_cons_succ]); (try go_wp2_with (go_at_call 41; refine (toBan_any b.A b.X b.B b.Y _).mono ?_; rintro e w0b ⟨rfl, he1⟩; have E0 := Lib.hid (E.out.trans he1); have EB := Lib.hid he1; clear he1)); refine hK.out _ _ ?_ (fun hHeld => ?_); (focus exact ⟨E0.out.cell1 s0.out, E0.out.cell1 s1.out, E0.out.cell1 s2.out, E0.out.cell1 s3.out, E0.out.cell1 s4.out, E0.out.cell1 s5.out⟩); clear hK K; (try simp only [Act.put, List.setIfInBounds_toArray, List.set_cons_zero, List.set_cons_succ])
        refine wpAnyH_ready (rs := [3, 7]) (by kernel_rfl) (by simp) ?_; refine AllReadyH.cons rfl (fun K hK => ?_) (AllReadyH.cons rfl (fun K hK => ?_) (AllReadyH.nil))
        focus
          go_simp; (try simp only [Act.put, List.setIfInBounds_toArray, List.set_cons_zero, List.set_cons_succ]); (try go_wp2_with (go_at_call 42; refine (I4.out _ _ _ (by exact TX4.out.ext E0.out)).mono ?_; rintro e w1b ⟨A3, n3, c3, B3, m3, d3, rfl, o3, o4, he1⟩; have E1 := Lib.hid (E0.out.trans he1); have RI := Lib.hid (own_low' o3 (show w8.heap.size ≤ _ from E0.out.size)); have RB := Lib.hid (own_low' o4 (show w8.heap.size ≤ _ from E0.out.size)); clear o3 o4 he1)); refine hK.out _ _ ?_ (fun hHeld => ?_); (focus exact ⟨E1.out.cell1 s0.out, E1.out.cell1 s1.out, E1.out.cell1 s2.out, E1.out.cell1 s3.out, E1.out.cell1 s4.out, E1.out.cell1 s5.out⟩); clear hK K; (try simp only [Act.put, List.setIfInBounds_toArray, List.set_cons_zero, List.set_cons_succ])
          (refine wpAnyH_take (i := 4) (v := ?_) rfl (by kernel_rfl) (by kernel_rfl) (by kernel_rfl) (fun _ _ _ h => h) (Or.inl ⟨by rfl, ?_⟩) (by assumption) ?_); rotate_left 1; (focus (intro w hSw; (try dsimp only at hSw); go_simp; (try with_reducible rfl))); (try simp only [Act.put, List.setIfInBounds_toArray, List.set_cons_zero, List.set_cons_succ]); (refine wpAnyH_take (i := 5) (v := ?_) rfl (by kernel_rfl) (by kernel_rfl) (by kernel_rfl) (fun _ _ _ h => h) (Or.inl ⟨by rfl, ?_⟩) (by assumption) ?_); rotate_left 1; (focus (intro w hSw; (try dsimp only at hSw); go_simp; (try with_reducible rfl))); (try simp only [Act.put, List.setIfInBounds_toArray, List.set_cons_zero, List.set_cons_succ]); (refine wpAnyH_take (i := 6) (v := ?_) rfl (by kernel_rfl) (by kernel_rfl) (by kernel_rfl) (fun _ _ _ h => h) (Or.inl ⟨by rfl, ?_⟩) (by assumption) ?_); rotate_left 1; (focus (intro w hSw; (try dsimp only at hSw); go_simp; (try with_reducible rfl))); (try simp only [Act.put, List.setIfInBounds_toArray, List.set_cons_zero, List.set_cons_succ])
          have E2 := Lib.hid (E1.out.alloc (.cells #[.slice none 0 0, .slice none 0 0] 30))
          refine wpAnyH_ready (rs := [7]) (by kernel_rfl) (by simp) ?_; refine AllReadyH.cons rfl (fun K hK => ?_) AllReadyH.nil; go_simp; (try simp only [Act.put, List.setIfInBounds_toArray, List.set_cons_zero, List.set_cons_succ]); (try go_wp2_with fail); refine hK.out _ _ ?_ (fun hHeld => ?_); (focus exact ⟨E2.out.cell1 s0.out, E2.out.cell1 s1.out, E2.out.cell1 s2.out, E2.out.cell1 s3.out, E2.out.cell1 s4.out, E2.out.cell1 s5.out⟩); clear hK K; (try simp only [Act.put, List.setIfInBounds_toArray, List.set_cons_zero, List.set_cons_succ])
          have BX0 := own_block (w1b) 30 [.slice none 0 0, .slice none 0 0]
          have zx0 : w8.heap.size ≤ (w1b).heap.size := E1.out.size
          (try simp only [World.size_alloc, World.size_drew] at BX0 zx0)
          have BX := Lib.hid (own_low' BX0 zx0)
          clear BX0
          have RI_2 := Lib.hid (((Ext.refl (w1b)).alloc (.cells #[.slice none 0 0, .slice none 0 0] 30)).own RI.out)
          have RB_2 := Lib.hid (((Ext.refl (w1b)).alloc (.cells #[.slice none 0 0, .slice none 0 0] 30)).own RB.out)
          obtain ⟨k0, gx⟩ := own_setCells [.slice A3 n3 c3, .slice B3 m3 d3] 0 _ _ BX.out
          have zx := (BX.out.lt _ rfl).1
          have EF := Lib.hid (E2.out)
          refine wpAnyH_ready (rs := [8]) (by kernel_rfl) (by simp) ?_; refine AllReadyH.cons rfl (fun K hK => ?_) AllReadyH.nil; refine step_store rfl 30 (.tmp 9) (.tmp 36) rfl w1b.heap.size 0 [.slice A3 n3 c3, .slice B3 m3 d3] rfl rfl (own_there BX.out 0 2 (by simp)) sizeTab rfl rfl ?_; (try simp only [Act.put, List.setIfInBounds_toArray, List.set_cons_zero, List.set_cons_succ]); refine hK.out _ _ ?_ (fun hHeld => ?_); (focus exact ⟨grown_cell (A := some ⟨w1b.heap.size, 0, none⟩) (m := 0) (c := 0) gx (Off.ne (by omega)) (EF.out.cell1 s0.out), grown_cell (A := some ⟨w1b.heap.size, 0, none⟩) (m := 0) (c := 0) gx (Off.ne (by omega)) (EF.out.cell1 s1.out), grown_cell (A := some ⟨w1b.heap.size, 0, none⟩) (m := 0) (c := 0) gx (Off.ne (by omega)) (EF.out.cell1 s2.out), grown_cell (A := some ⟨w1b.heap.size, 0, none⟩) (m := 0) (c := 0) gx (Off.ne (by omega)) (EF.out.cell1 s3.out), grown_cell (A := some ⟨w1b.heap.size, 0, none⟩) (m := 0) (c := 0) gx (Off.ne (by omega)) (EF.out.cell1 s4.out), grown_cell (A := some ⟨w1b.heap.size, 0, none⟩) (m := 0) (c := 0) gx (Off.ne (by omega)) (EF.out.cell1 s5.out)⟩); clear hK K; (try simp only [Act.put, List.setIfInBounds_toArray, List.set_cons_zero, List.set_cons_succ])
          (refine wpAnyH_take (i := 9) (v := ?_) rfl (by kernel_rfl) (by kernel_rfl) (by kernel_rfl) (fun _ _ _ h => h) (Or.inl ⟨by rfl, ?_⟩) (by assumption) ?_); rotate_left 1; (focus (intro w hSw; (try dsimp only at hSw); go_simp; (try with_reducible rfl))); (try simp only [Act.put, List.setIfInBounds_toArray, List.set_cons_zero, List.set_cons_succ])
          refine wpAnyH_done (by kernel_rfl) ?_ _
          have RIF := Lib.hid (RI_2.out.kept gx (own_types RI_2.out BX.out intTab))
          have RBF := Lib.hid (RB_2.out.kept gx (own_types RB_2.out BX.out banTab))
          have GX := Lib.hid gx
          have BXF := Lib.hid k0
          have ZX : w8.heap.size ≤ w1b.heap.size := zx
          clear k0 gx zx
          obtain ⟨W5, hW5⟩ : ∃ W5, (w1b.alloc (.cells #[.slice none 0 0, .slice none 0 0] 30)).setCells w1b.heap.size 0 [.slice A3 n3 c3, .slice B3 m3 d3] = W5 := ⟨_, rfl⟩
          rw [hW5] at RIF RBF BXF GX
          rw [hW5]
          clear hW5
        rotate_left 1
        focus
          have E3 := Lib.hid (E0.out.alloc (.cells #[.slice none 0 0, .slice none 0 0] 30))
          go_simp; (try simp only [Act.put, List.setIfInBounds_toArray, List.set_cons_zero, List.set_cons_succ]); (try go_wp2_with fail); refine hK.out _ _ ?_ (fun hHeld => ?_); (focus exact ⟨E3.out.cell1 s0.out, E3.out.cell1 s1.out, E3.out.cell1 s2.out, E3.out.cell1 s3.out, E3.out.cell1 s4.out, E3.out.cell1 s5.out⟩); clear hK K; (try simp only [Act.put, List.setIfInBounds_toArray, List.set_cons_zero, List.set_cons_succ])
          have BX0 := own_block (w0b) 30 [.slice none 0 0, .slice none 0 0]
          have zx0 : w8.heap.size ≤ (w0b).heap.size := E0.out.size
          (try simp only [World.size_alloc, World.size_drew] at BX0 zx0)
          have BX := Lib.hid (own_low' BX0 zx0)
          clear BX0
          refine wpAnyH_ready (rs := [3]) (by kernel_rfl) (by simp) ?_; refine AllReadyH.cons rfl (fun K hK => ?_) AllReadyH.nil; go_simp; (try simp only [Act.put, List.setIfInBounds_toArray, List.set_cons_zero, List.set_cons_succ]); (try go_wp2_with (go_at_call 42; refine (I4.out _ _ _ (by exact TX4.out.ext E3.out)).mono ?_; rintro e w4b ⟨A3, n3, c3, B3, m3, d3, rfl, o3, o4, he1⟩; have E4 := Lib.hid (E3.out.trans he1); have BX_4 := Lib.hid (he1.own BX.out); have RI := Lib.hid (own_low' o3 (show w8.heap.size ≤ _ from E3.out.size)); have RB := Lib.hid (own_low' o4 (show w8.heap.size ≤ _ from E3.out.size)); clear o3 o4 he1)); refine hK.out _ _ ?_ (fun hHeld => ?_); (focus exact ⟨E4.out.cell1 s0.out, E4.out.cell1 s1.out, E4.out.cell1 s2.out, E4.out.cell1 s3.out, E4.out.cell1 s4.out, E4.out.cell1 s5.out⟩); clear hK K; (try simp only [Act.put, List.setIfInBounds_toArray, List.set_cons_zero, List.set_cons_succ])
          (refine wpAnyH_take (i := 4) (v := ?_) rfl (by kernel_rfl) (by kernel_rfl) (by kernel_rfl) (fun _ _ _ h => h) (Or.inl ⟨by rfl, ?_⟩) (by assumption) ?_); rotate_left 1; (focus (intro w hSw; (try dsimp only at hSw); go_simp; (try with_reducible rfl))); (try simp only [Act.put, List.setIfInBounds_toArray, List.set_cons_zero, List.set_cons_succ]); (refine wpAnyH_take (i := 5) (v := ?_) rfl (by kernel_rfl) (by kernel_rfl) (by kernel_rfl) (fun _ _ _ h => h) (Or.inl ⟨by rfl, ?_⟩) (by assumption) ?_); rotate_left 1; (focus (intro w hSw; (try dsimp only at hSw); go_simp; (try with_reducible rfl))); (try simp only [Act.put, List.setIfInBounds_toArray, List.set_cons_zero, List.set_cons_succ]); (refine wpAnyH_take (i := 6) (v := ?_) rfl (by kernel_rfl) (by kernel_rfl) (by kernel_rfl) (fun _ _ _ h => h) (Or.inl ⟨by rfl, ?_⟩) (by assumption) ?_); rotate_left 1; (focus (intro w hSw; (try dsimp only at hSw); go_simp; (try with_reducible rfl))); (try simp only [Act.put, List.setIfInBounds_toArray, List.set_cons_zero, List.set_cons_succ])
          obtain ⟨k0, gx⟩ := own_setCells [.slice A3 n3 c3, .slice B3 m3 d3] 0 _ _ BX_4.out
          have zx := (BX_4.out.lt _ rfl).1
          have EF := Lib.hid (E4.out)
          refine wpAnyH_ready (rs := [8]) (by kernel_rfl) (by simp) ?_; refine AllReadyH.cons rfl (fun K hK => ?_) AllReadyH.nil; refine step_store rfl 30 (.tmp 9) (.tmp 36) rfl w0b.heap.size 0 [.slice A3 n3 c3, .slice B3 m3 d3] rfl rfl (own_there BX_4.out 0 2 (by simp)) sizeTab rfl rfl ?_; (try simp only [Act.put, List.setIfInBounds_toArray, List.set_cons_zero, List.set_cons_succ]); refine hK.out _ _ ?_ (fun hHeld => ?_); (focus exact ⟨grown_cell (A := some ⟨w0b.heap.size, 0, none⟩) (m := 0) (c := 0) gx (Off.ne (by omega)) (EF.out.cell1 s0.out), grown_cell (A := some ⟨w0b.heap.size, 0, none⟩) (m := 0) (c := 0) gx (Off.ne (by omega)) (EF.out.cell1 s1.out), grown_cell (A := some ⟨w0b.heap.size, 0, none⟩) (m := 0) (c := 0) gx (Off.ne (by omega)) (EF.out.cell1 s2.out), grown_cell (A := some ⟨w0b.heap.size, 0, none⟩) (m := 0) (c := 0) gx (Off.ne (by omega)) (EF.out.cell1 s3.out), grown_cell (A := some ⟨w0b.heap.size, 0, none⟩) (m := 0) (c := 0) gx (Off.ne (by omega)) (EF.out.cell1 s4.out), grown_cell (A := some ⟨w0b.heap.size, 0, none⟩) (m := 0) (c := 0) gx (Off.ne (by omega)) (EF.out.cell1 s5.out)⟩); clear hK K; (try simp only [Act.put, List.setIfInBounds_toArray, List.set_cons_zero, List.set_cons_succ])
          (refine wpAnyH_take (i := 9) (v := ?_) rfl (by kernel_rfl) (by kernel_rfl) (by kernel_rfl) (fun _ _ _ h => h) (Or.inl ⟨by rfl, ?_⟩) (by assumption) ?_); rotate_left 1; (focus (intro w hSw; (try dsimp only at hSw); go_simp; (try with_reducible rfl))); (try simp only [Act.put, List.setIfInBounds_toArray, List.set_cons_zero, List.set_cons_succ])
          refine wpAnyH_done (by kernel_rfl) ?_ _
          have RIF := Lib.hid (RI.out.kept gx (own_types RI.out BX_4.out intTab))
          have RBF := Lib.hid (RB.out.kept gx (own_types RB.out BX_4.out banTab))
          have GX := Lib.hid gx
          have BXF := Lib.hid k0
          have ZX : w8.heap.size ≤ w0b.heap.size := zx
          clear k0 gx zx
          obtain ⟨W5, hW5⟩ : ∃ W5, w4b.setCells w0b.heap.size 0 [.slice A3 n3 c3, .slice B3 m3 d3] = W5 := ⟨_, rfl⟩
          rw [hW5] at RIF RBF BXF GX
          rw [hW5]
          clear hW5
        rotate_left 1
      rotate_left 2
      focus
        have E5 := Lib.hid (E.out.alloc (.cells #[.slice none 0 0, .slice none 0 0] 30))
        go_simp; (try simp only [Act.put, List.setIfInBounds_toArray, List.set_cons_zero, List.set_cons_succ]); (try go_wp2_with fail); refine hK.out _ _ ?_ (fun hHeld => ?_); (focus exact ⟨E5.out.cell1 s0.out, E5.out.cell1 s1.out, E5.out.cell1 s2.out, E5.out.cell1 s3.out, E5.out.cell1 s4.out, E5.out.cell1 s5.out⟩); clear hK K; (try simp only [Act.put, List.setIfInBounds_toArray, List.set_cons_zero, List.set_cons_succ])
        have BX0 := own_block (w8.drew) 30 [.slice none 0 0, .slice none 0 0]
        have zx0 : w8.heap.size ≤ (w8.drew).heap.size := E.out.size
        (try simp only [World.size_alloc, World.size_drew] at BX0 zx0)
        have BX := Lib.hid (own_low' BX0 zx0)
        clear BX0
        refine wpAnyH_ready (rs := [2]) (by kernel_rfl) (by simp) ?_; refine AllReadyH.cons rfl (fun K hK => ?_) AllReadyH.nil; go_simp; (try simp only [Act.put, List.setIfInBounds_toArray, List.set_cons_zero, List.set_cons_succ]); (try go_wp2_with (go_at_call 41; refine (toBan_any b.A b.X b.B b.Y _).mono ?_; rintro e w6b ⟨rfl, he1⟩; have E6 := Lib.hid (E5.out.trans he1); have BX_6 := Lib.hid (he1.own BX.out); have EB := Lib.hid he1; clear he1)); refine hK.out _ _ ?_ (fun hHeld => ?_); (focus exact ⟨E6.out.cell1 s0.out, E6.out.cell1 s1.out, E6.out.cell1 s2.out, E6.out.cell1 s3.out, E6.out.cell1 s4.out, E6.out.cell1 s5.out⟩); clear hK K; (try simp only [Act.put, List.setIfInBounds_toArray, List.set_cons_zero, List.set_cons_succ])
        refine wpAnyH_ready (rs := [3]) (by kernel_rfl) (by simp) ?_; refine AllReadyH.cons rfl (fun K hK => ?_) AllReadyH.nil; go_simp; (try simp only [Act.put, List.setIfInBounds_toArray, List.set_cons_zero, List.set_cons_succ]); (try go_wp2_with (go_at_call 42; refine (I4.out _ _ _ (by exact TX4.out.ext E6.out)).mono ?_; rintro e w7b ⟨A3, n3, c3, B3, m3, d3, rfl, o3, o4, he1⟩; have E7 := Lib.hid (E6.out.trans he1); have BX_7 := Lib.hid (he1.own BX_6.out); have RI := Lib.hid (own_low' o3 (show w8.heap.size ≤ _ from E6.out.size)); have RB := Lib.hid (own_low' o4 (show w8.heap.size ≤ _ from E6.out.size)); clear o3 o4 he1)); refine hK.out _ _ ?_ (fun hHeld => ?_); (focus exact ⟨E7.out.cell1 s0.out, E7.out.cell1 s1.out, E7.out.cell1 s2.out, E7.out.cell1 s3.out, E7.out.cell1 s4.out, E7.out.cell1 s5.out⟩); clear hK K; (try simp only [Act.put, List.setIfInBounds_toArray, List.set_cons_zero, List.set_cons_succ])
        (refine wpAnyH_take (i := 4) (v := ?_) rfl (by kernel_rfl) (by kernel_rfl) (by kernel_rfl) (fun _ _ _ h => h) (Or.inl ⟨by rfl, ?_⟩) (by assumption) ?_); rotate_left 1; (focus (intro w hSw; (try dsimp only at hSw); go_simp; (try with_reducible rfl))); (try simp only [Act.put, List.setIfInBounds_toArray, List.set_cons_zero, List.set_cons_succ]); (refine wpAnyH_take (i := 5) (v := ?_) rfl (by kernel_rfl) (by kernel_rfl) (by kernel_rfl) (fun _ _ _ h => h) (Or.inl ⟨by rfl, ?_⟩) (by assumption) ?_); rotate_left 1; (focus (intro w hSw; (try dsimp only at hSw); go_simp; (try with_reducible rfl))); (try simp only [Act.put, List.setIfInBounds_toArray, List.set_cons_zero, List.set_cons_succ]); (refine wpAnyH_take (i := 6) (v := ?_) rfl (by kernel_rfl) (by kernel_rfl) (by kernel_rfl) (fun _ _ _ h => h) (Or.inl ⟨by rfl, ?_⟩) (by assumption) ?_); rotate_left 1; (focus (intro w hSw; (try dsimp only at hSw); go_simp; (try with_reducible rfl))); (try simp only [Act.put, List.setIfInBounds_toArray, List.set_cons_zero, List.set_cons_succ])
        obtain ⟨k0, gx⟩ := own_setCells [.slice A3 n3 c3, .slice B3 m3 d3] 0 _ _ BX_7.out
        have zx := (BX_7.out.lt _ rfl).1
        have EF := Lib.hid (E7.out)
        refine wpAnyH_ready (rs := [8]) (by kernel_rfl) (by simp) ?_; refine AllReadyH.cons rfl (fun K hK => ?_) AllReadyH.nil; refine step_store rfl 30 (.tmp 9) (.tmp 36) rfl w8.heap.size 0 [.slice A3 n3 c3, .slice B3 m3 d3] rfl rfl (own_there BX_7.out 0 2 (by simp)) sizeTab rfl rfl ?_; (try simp only [Act.put, List.setIfInBounds_toArray, List.set_cons_zero, List.set_cons_succ]); refine hK.out _ _ ?_ (fun hHeld => ?_); (focus exact ⟨grown_cell (A := some ⟨w8.heap.size, 0, none⟩) (m := 0) (c := 0) gx (Off.ne (by omega)) (EF.out.cell1 s0.out), grown_cell (A := some ⟨w8.heap.size, 0, none⟩) (m := 0) (c := 0) gx (Off.ne (by omega)) (EF.out.cell1 s1.out), grown_cell (A := some ⟨w8.heap.size, 0, none⟩) (m := 0) (c := 0) gx (Off.ne (by omega)) (EF.out.cell1 s2.out), grown_cell (A := some ⟨w8.heap.size, 0, none⟩) (m := 0) (c := 0) gx (Off.ne (by omega)) (EF.out.cell1 s3.out), grown_cell (A := some ⟨w8.heap.size, 0, none⟩) (m := 0) (c := 0) gx (Off.ne (by omega)) (EF.out.cell1 s4.out), grown_cell (A := some ⟨w8.heap.size, 0, none⟩) (m := 0) (c := 0) gx (Off.ne (by omega)) (EF.out.cell1 s5.out)⟩); clear hK K; (try simp only [Act.put, List.setIfInBounds_toArray, List.set_cons_zero, List.set_cons_succ])
        (refine wpAnyH_take (i := 9) (v := ?_) rfl (by kernel_rfl) (by kernel_rfl) (by kernel_rfl) (fun _ _ _ h => h) (Or.inl ⟨by rfl, ?_⟩) (by assumption) ?_); rotate_left 1; (focus (intro w hSw; (try dsimp only at hSw); go_simp; (try with_reducible rfl))); (try simp only [Act.put, List.setIfInBounds_toArray, List.set_cons_zero, List.set_cons_succ])
        refine wpAnyH_done (by kernel_rfl) ?_ _
        have RIF := Lib.hid (RI.out.kept gx (own_types RI.out BX_7.out intTab))
        have RBF := Lib.hid (RB.out.kept gx (own_types RB.out BX_7.out banTab))
        have GX := Lib.hid gx
        have BXF := Lib.hid k0
        have ZX : w8.heap.size ≤ w8.heap.size := zx
        clear k0 gx zx
        obtain ⟨W5, hW5⟩ : ∃ W5, w7b.setCells w8.heap.size 0 [.slice A3 n3 c3, .slice B3 m3 d3] = W5 := ⟨_, rfl⟩
        rw [hW5] at RIF RBF BXF GX
        rw [hW5]
        clear hW5
      rotate_left 1
      all_goals
        obtain rfl : n3 = ls.length := by have := RIF.out.1; rw [ints_length] at this; omega
        obtain rfl : m3 = cs.length := by have := RBF.out.1; rw [bans_len] at this; omega
        (try simp only [List.getElem_toArray, List.getElem_cons_succ, List.getElem_cons_zero, List.setIfInBounds_toArray, List.set_cons_succ, List.set_cons_zero])
        go_wp2
        go_meet
        exact ⟨⟨_, A3, c3, B3, d3, rfl, rfl, ⟨BXF.out, RIF.out, RBF.out, (BXF.out.lt _ rfl).2, fun k hk => (RIF.out.lt k hk).2, fun k hk => (RBF.out.lt k hk).2⟩⟩, (LB8.out.step EF.out).row GX.out (by omega), (TS8.out.step EF.out).row GX.out (Or.inr (by omega)), (TX.out.step EF.out).row GX.out (Or.inr (by omega)), Nat.le_trans EF.out.size GX.out.size⟩
    case rest =>
      obtain ⟨⟨x9, A9, c9, B9, d9, rfl, rfl, tg⟩, lb3, ts3, tx3, z3⟩ := hcut
      rename World => w9
      have LB9 := Lib.hid lb3
      have TS9 := Lib.hid ts3
      have TX9 := Lib.hid tx3
      have TG9 := Lib.hid tg
      have SZ9 := Lib.hid (Sz.mk (Nat.le_refl w9.heap.size))
      have HL2 := HLW.out.2
      have HC2 := HCW.out.2
      have hk1 : decide ((1 : Int) + (n : Int) + 4 * (m : Int) < 0) = false := decide_eq_false (by omega)
      have hk2 : decide ((1 : Int) + (ls.length : Int) + 4 * (cs.length : Int) < 0) = false := decide_eq_false (by omega)
      clear LB8 TS8 TX TX4 t0 t1 d0 d1 d2 d3 lb3 ts3 tx3 tg
      have p0 := TG9.out.c0
      have p1 := TG9.out.c1
      have q0 := TS9.out.c0
      have q1 := TS9.out.c1
      have yp : x9 < w9.heap.size := TG9.out.lo_x.2
      have yq : x6 < w9.heap.size := TS9.out.lo_x.2
      have EG := Lib.hid (show TabL w9 _ _ _ _ ls cs from TG9.out.tab HLW.out.2 (by have := HCW.out.2; omega) HLW.out.1 HCW.out.1)
      have ES := Lib.hid (show TabL w9 _ _ _ _ ls cs from TS9.out.tab HLW.out.2 (by have := HCW.out.2; omega) HLW.out.1 HCW.out.1)
      go_wp2_with fail
      refine (eqKindTable_same A9 A6 _ c9 c6 B9 B6 _ d9 d6 ls cs _ EG.out ES.out).mono ?_
      rintro e w10 ⟨rfl, e10⟩
      have LB10 := Lib.hid (LB9.out.step e10)
      have TS10 := Lib.hid (TS9.out.step e10)
      have TX10 := Lib.hid (TX9.out.step e10)
      have TG10 := Lib.hid (TG9.out.step e10)
      have SZ10 := Lib.hid (SZ9.out.step e10)
      clear p0 p1 yp q0 q1 yq
      clear EG ES e10 LB9 TS9 TX9 TG9 SZ9
      have p0 := LB10.out.c0
      have p1 := LB10.out.c1
      have q0 := TX10.out.c0
      have q1 := TX10.out.c1
      have yp : w.heap.size < w10.heap.size := by have := LB10.out.lt; omega
      have yq : x8 < w10.heap.size := TX10.out.lo_x.2
      go_upto_region 10 with fail
      have TXL := Lib.hid (show TabL w10 (some ⟨g3, 0, none⟩) n (some ⟨g4, 0, none⟩) m ss bs from TX10.out.tab (by omega) (by omega) T1.out.sw T1.out.bl.wf)
      have TA := Lib.hid (T1.out.ext LB10.out.ext)
      go_cut [51] from 47 to 50 (fun t W => t = .bool false ∧ Ext w10 W)
      case first =>
        go_region_held3 (fun w' => w'.cell? ⟨w.heap.size, 0, none⟩ = some (.slice A n c) ∧ w'.cell? ⟨w.heap.size, 1, none⟩ = some (.slice B m d) ∧ w'.cell? ⟨x8, 0, none⟩ = some (.slice (some ⟨g3, 0, none⟩) n n) ∧ w'.cell? ⟨x8, 1, none⟩ = some (.slice (some ⟨g4, 0, none⟩) m m)) (((try dsimp only); go_split_ands; (repeat' apply And.intro) <;> first | assumption | exact Ext.cell1 he1 (by assumption) | (simp [*]; done) | (simp [*, go_sem, World.cell?_alloc_past]; done))) (first | (go_at_call 15; refine (toKindTable_any A n c B m d ss bs _ (TA.out.ext (by repeat (first | exact Ext.refl _ | assumption | refine Ext.trans ?_ (by assumption) | refine Ext.drew ?_ | refine Ext.drewN ?_ _ | refine Ext.alloc ?_ _)))).mono ?_; rintro e wt ⟨g5, g6, hg5, hg56, rfl, o5, o6, he1⟩; have T7 := Lib.hid (NewTab.tab (e := .returned (.bool true)) (w' := wt) TA.out o5 o6)) | (go_at_call 17; refine (eqKindTable_same _ _ n n n _ _ m m m ss bs _ (TXL.out.ext (by repeat (first | exact Ext.refl _ | assumption | refine Ext.trans ?_ (by assumption) | refine Ext.drew ?_ | refine Ext.drewN ?_ _ | refine Ext.alloc ?_ _))) (by first | exact T7.out | exact T7.out.ext (by repeat (first | exact Ext.refl _ | assumption | refine Ext.trans ?_ (by assumption) | refine Ext.drew ?_ | refine Ext.drewN ?_ _ | refine Ext.alloc ?_ _)))).mono ?_; rintro e w7 ⟨rfl, he1⟩))
        all_goals
          go_wp2
          go_meet
          exact ⟨rfl, (by repeat (first | exact Ext.refl _ | assumption | refine Ext.trans ?_ (by assumption) | refine Ext.drew ?_ | refine Ext.drewN ?_ _ | refine Ext.alloc ?_ _))⟩
      case rest =>
      obtain ⟨rfl, e11⟩ := hcut
      rename World => w11
      have LB11 := Lib.hid (LB10.out.step e11)
      have TS11 := Lib.hid (TS10.out.step e11)
      have TX11 := Lib.hid (TX10.out.step e11)
      have TG11 := Lib.hid (TG10.out.step e11)
      have SZ11 := Lib.hid (SZ10.out.step e11)
      clear p0 p1 yp q0 q1 yq
      clear LB10 TS10 TX10 TG10 SZ10 TXL TA e11
      have p0 := TX11.out.c0
      have p1 := TX11.out.c1
      have yp : x8 < w11.heap.size := TX11.out.lo_x.2
      have BA := Lib.hid (fun g hg => (⟨(TX11.out.ri.lt g hg).1, TX11.out.ui g hg⟩ : w2.heap.size ≤ g ∧ g < w8.heap.size))
      have BB := Lib.hid (fun g hg => (⟨(TX11.out.rb.lt g hg).1, TX11.out.ub g hg⟩ : w2.heap.size ≤ g ∧ g < w8.heap.size))
      go_wp2_with fail
      refine (markKindTable_v (some ⟨g3, 0, none⟩) n n (some ⟨g4, 0, none⟩) m m w2.heap.size w2.heap.size ss _ 1 _ (by omega) (by have := HLW.out.2; have := HCW.out.2; omega) TX11.out.ri TX11.out.rb).mono ?_
      rintro e w12 hp
      have TX12 := Lib.hid (TX11.out.marked hp)
      obtain ⟨rfl, p1', p2', wm, q1', q2'⟩ := hp
      have LB12 := Lib.hid ((LB11.out.grow q1' (fun g hg => by have := BA.out g hg; exact (by omega))).grow q2' (fun g hg => by have := BB.out g hg; exact (by omega)))
      have TS12 := Lib.hid ((TS11.out.grow q1' (fun g hg => by have := BA.out g hg; exact (Or.inr (by omega)))).grow q2' (fun g hg => by have := BB.out g hg; exact (Or.inr (by omega))))
      have TG12 := Lib.hid ((TG11.out.grow q1' (fun g hg => by have := BA.out g hg; exact (Or.inl (by omega)))).grow q2' (fun g hg => by have := BB.out g hg; exact (Or.inl (by omega))))
      have SZ12 := Lib.hid ((SZ11.out.grow q1' (fun g hg => by have := BA.out g hg; exact trivial)).grow q2' (fun g hg => by have := BB.out g hg; exact trivial))
      clear p1' p2' q1' q2' BA BB TX11 LB11 TS11 TG11 SZ11
      clear p0 p1 yp
      clear TX12
      have p0 := TG12.out.c0
      have p1 := TG12.out.c1
      have q0 := TS12.out.c0
      have q1 := TS12.out.c1
      have yp : x9 < w12.heap.size := TG12.out.lo_x.2
      have yq : x6 < w12.heap.size := TS12.out.lo_x.2
      have EG := Lib.hid (show TabL w12 _ _ _ _ ls cs from TG12.out.tab HLW.out.2 (by have := HCW.out.2; omega) HLW.out.1 HCW.out.1)
      have ES := Lib.hid (show TabL w12 _ _ _ _ ls cs from TS12.out.tab HLW.out.2 (by have := HCW.out.2; omega) HLW.out.1 HCW.out.1)
      go_wp2_with fail
      refine (eqKindTable_same A9 A6 _ c9 c6 B9 B6 _ d9 d6 ls cs _ EG.out ES.out).mono ?_
      rintro e w13 ⟨rfl, e13⟩
      have LB13 := Lib.hid (LB12.out.step e13)
      have TS13 := Lib.hid (TS12.out.step e13)
      have TG13 := Lib.hid (TG12.out.step e13)
      have SZ13 := Lib.hid (SZ12.out.step e13)
      clear p0 p1 yp q0 q1 yq
      clear EG ES e13 LB12 TS12 TG12 SZ12
      have p0 := TG13.out.c0
      have p1 := TG13.out.c1
      have yp : x9 < w13.heap.size := TG13.out.lo_x.2
      have BA := Lib.hid (fun g hg => (⟨(TG13.out.ri.lt g hg).1, TG13.out.ui g hg⟩ : w8.heap.size ≤ g ∧ g < w9.heap.size))
      have BB := Lib.hid (fun g hg => (⟨(TG13.out.rb.lt g hg).1, TG13.out.ub g hg⟩ : w8.heap.size ≤ g ∧ g < w9.heap.size))
      go_wp2_with fail
      refine (markKindTable_v A9 _ c9 B9 _ d9 w8.heap.size w8.heap.size ls _ 1 _ (by omega) (by have := HLW.out.2; have := HCW.out.2; omega) TG13.out.ri TG13.out.rb).mono ?_
      rintro e w14 hp
      have TG14 := Lib.hid (TG13.out.marked hp)
      obtain ⟨rfl, p1', p2', wm, q1', q2'⟩ := hp
      have LB14 := Lib.hid ((LB13.out.grow q1' (fun g hg => by have := BA.out g hg; exact (by omega))).grow q2' (fun g hg => by have := BB.out g hg; exact (by omega)))
      have TS14 := Lib.hid ((TS13.out.grow q1' (fun g hg => by have := BA.out g hg; exact (Or.inr (by omega)))).grow q2' (fun g hg => by have := BB.out g hg; exact (Or.inr (by omega))))
      have SZ14 := Lib.hid ((SZ13.out.grow q1' (fun g hg => by have := BA.out g hg; exact trivial)).grow q2' (fun g hg => by have := BB.out g hg; exact trivial))
      clear p1' p2' q1' q2' BA BB TG13 LB13 TS13 SZ13
      clear p0 p1 yp
      have p0 := TG14.out.c0
      have p1 := TG14.out.c1
      have yp : x9 < w14.heap.size := TG14.out.lo_x.2
      go_wp2_with fail
      refine (heldKindTable_any A9 _ c9 B9 _ d9 1 _ (by omega) (by have := HLW.out.2; have := HCW.out.2; omega) (Rd.own TG14.out.ri) (Rd.own TG14.out.rb)).mono ?_
      rintro e w15 ⟨rfl, e15⟩
      have LB15 := Lib.hid (LB14.out.step e15)
      have TS15 := Lib.hid (TS14.out.step e15)
      have TG15 := Lib.hid (TG14.out.step e15)
      have SZ15 := Lib.hid (SZ14.out.step e15)
      clear p0 p1 yp
      clear e15 LB14 TS14 TG14 SZ14
      go_upto_region 24 with fail
      have c0 := LB15.out.c0
      have c1 := LB15.out.c1
      have d0 := LB15.out.d0
      have d1 := LB15.out.d1
      have d2 := LB15.out.d2
      have d3 := LB15.out.d3
      have z1 : w.heap.size + 1 < w15.heap.size := LB15.out.lt
      have z0 : w.heap.size < w15.heap.size := by omega
      have zh9 : w9.heap.size ≤ w15.heap.size := SZ15.out.le
      have zh2 : w2.heap.size ≤ w15.heap.size := by omega
      go_cut [14, 15] from 79 to 86 (fun p q W => Got w15 ok ls cs p q W ∧ LB w (.slice A n c) (.slice B m d) b W ∧ Tb W w1.heap.size w2.heap.size x6 A6 ls.length c6 B6 cs.length d6 (ints ls) (cs.flatMap Ban.cs) ∧ Tb W w8.heap.size w9.heap.size x9 A9 ls.length c9 B9 cs.length d9 (ints (marksI 1 ls.length)) (ints (marksI (1 + ls.length) (cs.length * 4))))
      case first =>
        have E := Lib.hid ((Ext.refl w15).drew)
        have s0 := Lib.hid c0
        have s1 := Lib.hid c1
        have s2 := Lib.hid d0
        have s3 := Lib.hid d1
        have s4 := Lib.hid d2
        have s5 := Lib.hid d3
        refine wp_region_held_drew (S := (fun w' => w'.cell? ⟨w.heap.size, 0, none⟩ = some (.slice A n c) ∧ w'.cell? ⟨w.heap.size, 1, none⟩ = some (.slice B m d) ∧ w'.cell? ⟨w.heap.size + 1, 0, none⟩ = some (.int .i64 b.A) ∧ w'.cell? ⟨w.heap.size + 1, 1, none⟩ = some (.int .i64 b.X) ∧ w'.cell? ⟨w.heap.size + 1, 2, none⟩ = some (.int .i64 b.B) ∧ w'.cell? ⟨w.heap.size + 1, 3, none⟩ = some (.int .i64 b.Y))) (by kernel_rfl) ?_ (fun hHeld => ?_); (focus ((try dsimp only); (repeat' apply And.intro) <;> first | assumption | exact Ext.cell1 (Ext.drew (Ext.refl _)) (by assumption) | (simp [*, go_sem]; done) | (simp [*, go_sem, World.cell?_alloc_past]; done)))
        (refine wpAnyH_take (i := 0) (v := ?_) rfl (by kernel_rfl) (by kernel_rfl) (by kernel_rfl) (fun _ _ _ h => h) (Or.inl ⟨by rfl, ?_⟩) (by assumption) ?_); rotate_left 1; (focus (intro w hSw; (try dsimp only at hSw); go_simp; (try with_reducible rfl))); (try simp only [Act.put, List.setIfInBounds_toArray, List.set_cons_zero, List.set_cons_succ]); (refine wpAnyH_take (i := 2) (v := ?_) rfl (by kernel_rfl) (by kernel_rfl) (by kernel_rfl) (fun _ _ _ h => h) (Or.inl ⟨by rfl, ?_⟩) (by assumption) ?_); rotate_left 1; (focus (intro w hSw; (try dsimp only at hSw); go_simp; (try with_reducible rfl))); (try simp only [Act.put, List.setIfInBounds_toArray, List.set_cons_zero, List.set_cons_succ])
        clear c0 c1 d0 d1 d2 d3
        refine wpAnyH_ready (rs := [1, 8]) (by kernel_rfl) (by simp) ?_; refine AllReadyH.cons rfl (fun K hK => ?_) (AllReadyH.cons rfl (fun K hK => ?_) (AllReadyH.nil))
        focus
          go_simp; (try simp only [Act.put, List.setIfInBounds_toArray, List.set_cons_zero, List.set_cons_succ]); (try go_wp2_with (go_at_call 15; refine (toKindTable_any A n c B m d ss bs _ (T1.out.ext (LB15.out.ext.trans E.out))).mono ?_; rintro e w0c ⟨g1, g2, hg1, hg12, rfl, o1, o2, he1⟩; have T2 := Lib.hid (NewTab.tab (e := .returned (.bool true)) (w' := w0c) T1.out o1 o2); have E0 := Lib.hid (E.out.trans he1); clear o1 o2 he1)); refine hK.out _ _ ?_ (fun hHeld => ?_); (focus exact ⟨E0.out.cell1 s0.out, E0.out.cell1 s1.out, E0.out.cell1 s2.out, E0.out.cell1 s3.out, E0.out.cell1 s4.out, E0.out.cell1 s5.out⟩); clear hK K; (try simp only [Act.put, List.setIfInBounds_toArray, List.set_cons_zero, List.set_cons_succ])
          refine wpAnyH_ready (rs := [3, 8]) (by kernel_rfl) (by simp) ?_; refine AllReadyH.cons rfl (fun K hK => ?_) (AllReadyH.cons rfl (fun K hK => ?_) (AllReadyH.nil))
          focus
            go_simp; (try simp only [Act.put, List.setIfInBounds_toArray, List.set_cons_zero, List.set_cons_succ]); (try go_wp2_with (go_at_call 41; refine (toBan_any b.A b.X b.B b.Y _).mono ?_; rintro e w1c ⟨rfl, he1⟩; have E1 := Lib.hid (E0.out.trans he1); have EB := Lib.hid he1; clear he1)); refine hK.out _ _ ?_ (fun hHeld => ?_); (focus exact ⟨E1.out.cell1 s0.out, E1.out.cell1 s1.out, E1.out.cell1 s2.out, E1.out.cell1 s3.out, E1.out.cell1 s4.out, E1.out.cell1 s5.out⟩); clear hK K; (try simp only [Act.put, List.setIfInBounds_toArray, List.set_cons_zero, List.set_cons_succ])
            have TB := Lib.hid (T2.out.ext (show Ext _ _ from by first | exact EB.out | exact Ext.trans ((Ext.refl _).alloc _) EB.out))
            refine wpAnyH_ready (rs := [4, 8]) (by kernel_rfl) (by simp) ?_; refine AllReadyH.cons rfl (fun K hK => ?_) (AllReadyH.cons rfl (fun K hK => ?_) (AllReadyH.nil))
            focus
              go_simp; (try simp only [Act.put, List.setIfInBounds_toArray, List.set_cons_zero, List.set_cons_succ]); (try go_wp2_with (go_at_call 42; refine (I4.out _ _ _ (by first | exact TB.out | exact TB.out.ext ((Ext.refl _).alloc _))).mono ?_; rintro e w2c ⟨A3, n3, c3, B3, m3, d3, rfl, o3, o4, he1⟩; have E2 := Lib.hid (E1.out.trans he1); have RI := Lib.hid (own_low' o3 (show w15.heap.size ≤ _ from E1.out.size)); have RB := Lib.hid (own_low' o4 (show w15.heap.size ≤ _ from E1.out.size)); clear o3 o4 he1)); refine hK.out _ _ ?_ (fun hHeld => ?_); (focus exact ⟨E2.out.cell1 s0.out, E2.out.cell1 s1.out, E2.out.cell1 s2.out, E2.out.cell1 s3.out, E2.out.cell1 s4.out, E2.out.cell1 s5.out⟩); clear hK K; (try simp only [Act.put, List.setIfInBounds_toArray, List.set_cons_zero, List.set_cons_succ])
              (refine wpAnyH_take (i := 5) (v := ?_) rfl (by kernel_rfl) (by kernel_rfl) (by kernel_rfl) (fun _ _ _ h => h) (Or.inl ⟨by rfl, ?_⟩) (by assumption) ?_); rotate_left 1; (focus (intro w hSw; (try dsimp only at hSw); go_simp; (try with_reducible rfl))); (try simp only [Act.put, List.setIfInBounds_toArray, List.set_cons_zero, List.set_cons_succ]); (refine wpAnyH_take (i := 6) (v := ?_) rfl (by kernel_rfl) (by kernel_rfl) (by kernel_rfl) (fun _ _ _ h => h) (Or.inl ⟨by rfl, ?_⟩) (by assumption) ?_); rotate_left 1; (focus (intro w hSw; (try dsimp only at hSw); go_simp; (try with_reducible rfl))); (try simp only [Act.put, List.setIfInBounds_toArray, List.set_cons_zero, List.set_cons_succ]); (refine wpAnyH_take (i := 7) (v := ?_) rfl (by kernel_rfl) (by kernel_rfl) (by kernel_rfl) (fun _ _ _ h => h) (Or.inl ⟨by rfl, ?_⟩) (by assumption) ?_); rotate_left 1; (focus (intro w hSw; (try dsimp only at hSw); go_simp; (try with_reducible rfl))); (try simp only [Act.put, List.setIfInBounds_toArray, List.set_cons_zero, List.set_cons_succ])
              have E3 := Lib.hid (E2.out.alloc (.cells #[.slice none 0 0, .slice none 0 0] 30))
              refine wpAnyH_ready (rs := [8]) (by kernel_rfl) (by simp) ?_; refine AllReadyH.cons rfl (fun K hK => ?_) AllReadyH.nil; go_simp; (try simp only [Act.put, List.setIfInBounds_toArray, List.set_cons_zero, List.set_cons_succ]); (try go_wp2_with fail); refine hK.out _ _ ?_ (fun hHeld => ?_); (focus exact ⟨E3.out.cell1 s0.out, E3.out.cell1 s1.out, E3.out.cell1 s2.out, E3.out.cell1 s3.out, E3.out.cell1 s4.out, E3.out.cell1 s5.out⟩); clear hK K; (try simp only [Act.put, List.setIfInBounds_toArray, List.set_cons_zero, List.set_cons_succ])
              have BX0 := own_block (w2c) 30 [.slice none 0 0, .slice none 0 0]
              have zx0 : w15.heap.size ≤ (w2c).heap.size := E2.out.size
              (try simp only [World.size_alloc, World.size_drew] at BX0 zx0)
              have BX := Lib.hid (own_low' BX0 zx0)
              clear BX0
              have RI_3 := Lib.hid (((Ext.refl (w2c)).alloc (.cells #[.slice none 0 0, .slice none 0 0] 30)).own RI.out)
              have RB_3 := Lib.hid (((Ext.refl (w2c)).alloc (.cells #[.slice none 0 0, .slice none 0 0] 30)).own RB.out)
              obtain ⟨k0, gx⟩ := own_setCells [.slice A3 n3 c3, .slice B3 m3 d3] 0 _ _ BX.out
              have zx := (BX.out.lt _ rfl).1
              have EF := Lib.hid (E3.out)
              refine wpAnyH_ready (rs := [9]) (by kernel_rfl) (by simp) ?_; refine AllReadyH.cons rfl (fun K hK => ?_) AllReadyH.nil; refine step_store rfl 30 (.tmp 14) (.tmp 85) rfl w2c.heap.size 0 [.slice A3 n3 c3, .slice B3 m3 d3] rfl rfl (own_there BX.out 0 2 (by simp)) sizeTab rfl rfl ?_; (try simp only [Act.put, List.setIfInBounds_toArray, List.set_cons_zero, List.set_cons_succ]); refine hK.out _ _ ?_ (fun hHeld => ?_); (focus exact ⟨grown_cell (A := some ⟨w2c.heap.size, 0, none⟩) (m := 0) (c := 0) gx (Off.ne (by omega)) (EF.out.cell1 s0.out), grown_cell (A := some ⟨w2c.heap.size, 0, none⟩) (m := 0) (c := 0) gx (Off.ne (by omega)) (EF.out.cell1 s1.out), grown_cell (A := some ⟨w2c.heap.size, 0, none⟩) (m := 0) (c := 0) gx (Off.ne (by omega)) (EF.out.cell1 s2.out), grown_cell (A := some ⟨w2c.heap.size, 0, none⟩) (m := 0) (c := 0) gx (Off.ne (by omega)) (EF.out.cell1 s3.out), grown_cell (A := some ⟨w2c.heap.size, 0, none⟩) (m := 0) (c := 0) gx (Off.ne (by omega)) (EF.out.cell1 s4.out), grown_cell (A := some ⟨w2c.heap.size, 0, none⟩) (m := 0) (c := 0) gx (Off.ne (by omega)) (EF.out.cell1 s5.out)⟩); clear hK K; (try simp only [Act.put, List.setIfInBounds_toArray, List.set_cons_zero, List.set_cons_succ])
              (refine wpAnyH_take (i := 10) (v := ?_) rfl (by kernel_rfl) (by kernel_rfl) (by kernel_rfl) (fun _ _ _ h => h) (Or.inl ⟨by rfl, ?_⟩) (by assumption) ?_); rotate_left 1; (focus (intro w hSw; (try dsimp only at hSw); go_simp; (try with_reducible rfl))); (try simp only [Act.put, List.setIfInBounds_toArray, List.set_cons_zero, List.set_cons_succ])
              refine wpAnyH_done (by kernel_rfl) ?_ _
              have RIF := Lib.hid (RI_3.out.kept gx (own_types RI_3.out BX.out intTab))
              have RBF := Lib.hid (RB_3.out.kept gx (own_types RB_3.out BX.out banTab))
              have GX := Lib.hid gx
              have BXF := Lib.hid k0
              have ZX : w15.heap.size ≤ w2c.heap.size := zx
              clear k0 gx zx
              obtain ⟨W5, hW5⟩ : ∃ W5, (w2c.alloc (.cells #[.slice none 0 0, .slice none 0 0] 30)).setCells w2c.heap.size 0 [.slice A3 n3 c3, .slice B3 m3 d3] = W5 := ⟨_, rfl⟩
              rw [hW5] at RIF RBF BXF GX
              rw [hW5]
              clear hW5
            rotate_left 1
            focus
              have E4 := Lib.hid (E1.out.alloc (.cells #[.slice none 0 0, .slice none 0 0] 30))
              go_simp; (try simp only [Act.put, List.setIfInBounds_toArray, List.set_cons_zero, List.set_cons_succ]); (try go_wp2_with fail); refine hK.out _ _ ?_ (fun hHeld => ?_); (focus exact ⟨E4.out.cell1 s0.out, E4.out.cell1 s1.out, E4.out.cell1 s2.out, E4.out.cell1 s3.out, E4.out.cell1 s4.out, E4.out.cell1 s5.out⟩); clear hK K; (try simp only [Act.put, List.setIfInBounds_toArray, List.set_cons_zero, List.set_cons_succ])
              have BX0 := own_block (w1c) 30 [.slice none 0 0, .slice none 0 0]
              have zx0 : w15.heap.size ≤ (w1c).heap.size := E1.out.size
              (try simp only [World.size_alloc, World.size_drew] at BX0 zx0)
              have BX := Lib.hid (own_low' BX0 zx0)
              clear BX0
              refine wpAnyH_ready (rs := [4]) (by kernel_rfl) (by simp) ?_; refine AllReadyH.cons rfl (fun K hK => ?_) AllReadyH.nil; go_simp; (try simp only [Act.put, List.setIfInBounds_toArray, List.set_cons_zero, List.set_cons_succ]); (try go_wp2_with (go_at_call 42; refine (I4.out _ _ _ (by first | exact TB.out | exact TB.out.ext ((Ext.refl _).alloc _))).mono ?_; rintro e w5c ⟨A3, n3, c3, B3, m3, d3, rfl, o3, o4, he1⟩; have E5 := Lib.hid (E4.out.trans he1); have BX_5 := Lib.hid (he1.own BX.out); have RI := Lib.hid (own_low' o3 (show w15.heap.size ≤ _ from E4.out.size)); have RB := Lib.hid (own_low' o4 (show w15.heap.size ≤ _ from E4.out.size)); clear o3 o4 he1)); refine hK.out _ _ ?_ (fun hHeld => ?_); (focus exact ⟨E5.out.cell1 s0.out, E5.out.cell1 s1.out, E5.out.cell1 s2.out, E5.out.cell1 s3.out, E5.out.cell1 s4.out, E5.out.cell1 s5.out⟩); clear hK K; (try simp only [Act.put, List.setIfInBounds_toArray, List.set_cons_zero, List.set_cons_succ])
              (refine wpAnyH_take (i := 5) (v := ?_) rfl (by kernel_rfl) (by kernel_rfl) (by kernel_rfl) (fun _ _ _ h => h) (Or.inl ⟨by rfl, ?_⟩) (by assumption) ?_); rotate_left 1; (focus (intro w hSw; (try dsimp only at hSw); go_simp; (try with_reducible rfl))); (try simp only [Act.put, List.setIfInBounds_toArray, List.set_cons_zero, List.set_cons_succ]); (refine wpAnyH_take (i := 6) (v := ?_) rfl (by kernel_rfl) (by kernel_rfl) (by kernel_rfl) (fun _ _ _ h => h) (Or.inl ⟨by rfl, ?_⟩) (by assumption) ?_); rotate_left 1; (focus (intro w hSw; (try dsimp only at hSw); go_simp; (try with_reducible rfl))); (try simp only [Act.put, List.setIfInBounds_toArray, List.set_cons_zero, List.set_cons_succ]); (refine wpAnyH_take (i := 7) (v := ?_) rfl (by kernel_rfl) (by kernel_rfl) (by kernel_rfl) (fun _ _ _ h => h) (Or.inl ⟨by rfl, ?_⟩) (by assumption) ?_); rotate_left 1; (focus (intro w hSw; (try dsimp only at hSw); go_simp; (try with_reducible rfl))); (try simp only [Act.put, List.setIfInBounds_toArray, List.set_cons_zero, List.set_cons_succ])
              obtain ⟨k0, gx⟩ := own_setCells [.slice A3 n3 c3, .slice B3 m3 d3] 0 _ _ BX_5.out
              have zx := (BX_5.out.lt _ rfl).1
              have EF := Lib.hid (E5.out)
              refine wpAnyH_ready (rs := [9]) (by kernel_rfl) (by simp) ?_; refine AllReadyH.cons rfl (fun K hK => ?_) AllReadyH.nil; refine step_store rfl 30 (.tmp 14) (.tmp 85) rfl w1c.heap.size 0 [.slice A3 n3 c3, .slice B3 m3 d3] rfl rfl (own_there BX_5.out 0 2 (by simp)) sizeTab rfl rfl ?_; (try simp only [Act.put, List.setIfInBounds_toArray, List.set_cons_zero, List.set_cons_succ]); refine hK.out _ _ ?_ (fun hHeld => ?_); (focus exact ⟨grown_cell (A := some ⟨w1c.heap.size, 0, none⟩) (m := 0) (c := 0) gx (Off.ne (by omega)) (EF.out.cell1 s0.out), grown_cell (A := some ⟨w1c.heap.size, 0, none⟩) (m := 0) (c := 0) gx (Off.ne (by omega)) (EF.out.cell1 s1.out), grown_cell (A := some ⟨w1c.heap.size, 0, none⟩) (m := 0) (c := 0) gx (Off.ne (by omega)) (EF.out.cell1 s2.out), grown_cell (A := some ⟨w1c.heap.size, 0, none⟩) (m := 0) (c := 0) gx (Off.ne (by omega)) (EF.out.cell1 s3.out), grown_cell (A := some ⟨w1c.heap.size, 0, none⟩) (m := 0) (c := 0) gx (Off.ne (by omega)) (EF.out.cell1 s4.out), grown_cell (A := some ⟨w1c.heap.size, 0, none⟩) (m := 0) (c := 0) gx (Off.ne (by omega)) (EF.out.cell1 s5.out)⟩); clear hK K; (try simp only [Act.put, List.setIfInBounds_toArray, List.set_cons_zero, List.set_cons_succ])
              (refine wpAnyH_take (i := 10) (v := ?_) rfl (by kernel_rfl) (by kernel_rfl) (by kernel_rfl) (fun _ _ _ h => h) (Or.inl ⟨by rfl, ?_⟩) (by assumption) ?_); rotate_left 1; (focus (intro w hSw; (try dsimp only at hSw); go_simp; (try with_reducible rfl))); (try simp only [Act.put, List.setIfInBounds_toArray, List.set_cons_zero, List.set_cons_succ])
              refine wpAnyH_done (by kernel_rfl) ?_ _
              have RIF := Lib.hid (RI.out.kept gx (own_types RI.out BX_5.out intTab))
              have RBF := Lib.hid (RB.out.kept gx (own_types RB.out BX_5.out banTab))
              have GX := Lib.hid gx
              have BXF := Lib.hid k0
              have ZX : w15.heap.size ≤ w1c.heap.size := zx
              clear k0 gx zx
              obtain ⟨W5, hW5⟩ : ∃ W5, w5c.setCells w1c.heap.size 0 [.slice A3 n3 c3, .slice B3 m3 d3] = W5 := ⟨_, rfl⟩
              rw [hW5] at RIF RBF BXF GX
              rw [hW5]
              clear hW5
            rotate_left 1
          rotate_left 2
          focus
            have E6 := Lib.hid (E0.out.alloc (.cells #[.slice none 0 0, .slice none 0 0] 30))
            go_simp; (try simp only [Act.put, List.setIfInBounds_toArray, List.set_cons_zero, List.set_cons_succ]); (try go_wp2_with fail); refine hK.out _ _ ?_ (fun hHeld => ?_); (focus exact ⟨E6.out.cell1 s0.out, E6.out.cell1 s1.out, E6.out.cell1 s2.out, E6.out.cell1 s3.out, E6.out.cell1 s4.out, E6.out.cell1 s5.out⟩); clear hK K; (try simp only [Act.put, List.setIfInBounds_toArray, List.set_cons_zero, List.set_cons_succ])
            have BX0 := own_block (w0c) 30 [.slice none 0 0, .slice none 0 0]
            have zx0 : w15.heap.size ≤ (w0c).heap.size := E0.out.size
            (try simp only [World.size_alloc, World.size_drew] at BX0 zx0)
            have BX := Lib.hid (own_low' BX0 zx0)
            clear BX0
            refine wpAnyH_ready (rs := [3]) (by kernel_rfl) (by simp) ?_; refine AllReadyH.cons rfl (fun K hK => ?_) AllReadyH.nil; go_simp; (try simp only [Act.put, List.setIfInBounds_toArray, List.set_cons_zero, List.set_cons_succ]); (try go_wp2_with (go_at_call 41; refine (toBan_any b.A b.X b.B b.Y _).mono ?_; rintro e w7c ⟨rfl, he1⟩; have E7 := Lib.hid (E6.out.trans he1); have BX_7 := Lib.hid (he1.own BX.out); have EB := Lib.hid he1; clear he1)); refine hK.out _ _ ?_ (fun hHeld => ?_); (focus exact ⟨E7.out.cell1 s0.out, E7.out.cell1 s1.out, E7.out.cell1 s2.out, E7.out.cell1 s3.out, E7.out.cell1 s4.out, E7.out.cell1 s5.out⟩); clear hK K; (try simp only [Act.put, List.setIfInBounds_toArray, List.set_cons_zero, List.set_cons_succ])
            have TB := Lib.hid (T2.out.ext (show Ext _ _ from by first | exact EB.out | exact Ext.trans ((Ext.refl _).alloc _) EB.out))
            refine wpAnyH_ready (rs := [4]) (by kernel_rfl) (by simp) ?_; refine AllReadyH.cons rfl (fun K hK => ?_) AllReadyH.nil; go_simp; (try simp only [Act.put, List.setIfInBounds_toArray, List.set_cons_zero, List.set_cons_succ]); (try go_wp2_with (go_at_call 42; refine (I4.out _ _ _ (by first | exact TB.out | exact TB.out.ext ((Ext.refl _).alloc _))).mono ?_; rintro e w8c ⟨A3, n3, c3, B3, m3, d3, rfl, o3, o4, he1⟩; have E8 := Lib.hid (E7.out.trans he1); have BX_8 := Lib.hid (he1.own BX_7.out); have RI := Lib.hid (own_low' o3 (show w15.heap.size ≤ _ from E7.out.size)); have RB := Lib.hid (own_low' o4 (show w15.heap.size ≤ _ from E7.out.size)); clear o3 o4 he1)); refine hK.out _ _ ?_ (fun hHeld => ?_); (focus exact ⟨E8.out.cell1 s0.out, E8.out.cell1 s1.out, E8.out.cell1 s2.out, E8.out.cell1 s3.out, E8.out.cell1 s4.out, E8.out.cell1 s5.out⟩); clear hK K; (try simp only [Act.put, List.setIfInBounds_toArray, List.set_cons_zero, List.set_cons_succ])
            (refine wpAnyH_take (i := 5) (v := ?_) rfl (by kernel_rfl) (by kernel_rfl) (by kernel_rfl) (fun _ _ _ h => h) (Or.inl ⟨by rfl, ?_⟩) (by assumption) ?_); rotate_left 1; (focus (intro w hSw; (try dsimp only at hSw); go_simp; (try with_reducible rfl))); (try simp only [Act.put, List.setIfInBounds_toArray, List.set_cons_zero, List.set_cons_succ]); (refine wpAnyH_take (i := 6) (v := ?_) rfl (by kernel_rfl) (by kernel_rfl) (by kernel_rfl) (fun _ _ _ h => h) (Or.inl ⟨by rfl, ?_⟩) (by assumption) ?_); rotate_left 1; (focus (intro w hSw; (try dsimp only at hSw); go_simp; (try with_reducible rfl))); (try simp only [Act.put, List.setIfInBounds_toArray, List.set_cons_zero, List.set_cons_succ]); (refine wpAnyH_take (i := 7) (v := ?_) rfl (by kernel_rfl) (by kernel_rfl) (by kernel_rfl) (fun _ _ _ h => h) (Or.inl ⟨by rfl, ?_⟩) (by assumption) ?_); rotate_left 1; (focus (intro w hSw; (try dsimp only at hSw); go_simp; (try with_reducible rfl))); (try simp only [Act.put, List.setIfInBounds_toArray, List.set_cons_zero, List.set_cons_succ])
            obtain ⟨k0, gx⟩ := own_setCells [.slice A3 n3 c3, .slice B3 m3 d3] 0 _ _ BX_8.out
            have zx := (BX_8.out.lt _ rfl).1
            have EF := Lib.hid (E8.out)
            refine wpAnyH_ready (rs := [9]) (by kernel_rfl) (by simp) ?_; refine AllReadyH.cons rfl (fun K hK => ?_) AllReadyH.nil; refine step_store rfl 30 (.tmp 14) (.tmp 85) rfl w0c.heap.size 0 [.slice A3 n3 c3, .slice B3 m3 d3] rfl rfl (own_there BX_8.out 0 2 (by simp)) sizeTab rfl rfl ?_; (try simp only [Act.put, List.setIfInBounds_toArray, List.set_cons_zero, List.set_cons_succ]); refine hK.out _ _ ?_ (fun hHeld => ?_); (focus exact ⟨grown_cell (A := some ⟨w0c.heap.size, 0, none⟩) (m := 0) (c := 0) gx (Off.ne (by omega)) (EF.out.cell1 s0.out), grown_cell (A := some ⟨w0c.heap.size, 0, none⟩) (m := 0) (c := 0) gx (Off.ne (by omega)) (EF.out.cell1 s1.out), grown_cell (A := some ⟨w0c.heap.size, 0, none⟩) (m := 0) (c := 0) gx (Off.ne (by omega)) (EF.out.cell1 s2.out), grown_cell (A := some ⟨w0c.heap.size, 0, none⟩) (m := 0) (c := 0) gx (Off.ne (by omega)) (EF.out.cell1 s3.out), grown_cell (A := some ⟨w0c.heap.size, 0, none⟩) (m := 0) (c := 0) gx (Off.ne (by omega)) (EF.out.cell1 s4.out), grown_cell (A := some ⟨w0c.heap.size, 0, none⟩) (m := 0) (c := 0) gx (Off.ne (by omega)) (EF.out.cell1 s5.out)⟩); clear hK K; (try simp only [Act.put, List.setIfInBounds_toArray, List.set_cons_zero, List.set_cons_succ])
            (refine wpAnyH_take (i := 10) (v := ?_) rfl (by kernel_rfl) (by kernel_rfl) (by kernel_rfl) (fun _ _ _ h => h) (Or.inl ⟨by rfl, ?_⟩) (by assumption) ?_); rotate_left 1; (focus (intro w hSw; (try dsimp only at hSw); go_simp; (try with_reducible rfl))); (try simp only [Act.put, List.setIfInBounds_toArray, List.set_cons_zero, List.set_cons_succ])
            refine wpAnyH_done (by kernel_rfl) ?_ _
            have RIF := Lib.hid (RI.out.kept gx (own_types RI.out BX_8.out intTab))
            have RBF := Lib.hid (RB.out.kept gx (own_types RB.out BX_8.out banTab))
            have GX := Lib.hid gx
            have BXF := Lib.hid k0
            have ZX : w15.heap.size ≤ w0c.heap.size := zx
            clear k0 gx zx
            obtain ⟨W5, hW5⟩ : ∃ W5, w8c.setCells w0c.heap.size 0 [.slice A3 n3 c3, .slice B3 m3 d3] = W5 := ⟨_, rfl⟩
            rw [hW5] at RIF RBF BXF GX
            rw [hW5]
            clear hW5
          rotate_left 1
        rotate_left 3
        focus
          have E9 := Lib.hid (E.out.alloc (.cells #[.slice none 0 0, .slice none 0 0] 30))
          go_simp; (try simp only [Act.put, List.setIfInBounds_toArray, List.set_cons_zero, List.set_cons_succ]); (try go_wp2_with fail); refine hK.out _ _ ?_ (fun hHeld => ?_); (focus exact ⟨E9.out.cell1 s0.out, E9.out.cell1 s1.out, E9.out.cell1 s2.out, E9.out.cell1 s3.out, E9.out.cell1 s4.out, E9.out.cell1 s5.out⟩); clear hK K; (try simp only [Act.put, List.setIfInBounds_toArray, List.set_cons_zero, List.set_cons_succ])
          have BX0 := own_block (w15.drew) 30 [.slice none 0 0, .slice none 0 0]
          have zx0 : w15.heap.size ≤ (w15.drew).heap.size := E.out.size
          (try simp only [World.size_alloc, World.size_drew] at BX0 zx0)
          have BX := Lib.hid (own_low' BX0 zx0)
          clear BX0
          refine wpAnyH_ready (rs := [1]) (by kernel_rfl) (by simp) ?_; refine AllReadyH.cons rfl (fun K hK => ?_) AllReadyH.nil; go_simp; (try simp only [Act.put, List.setIfInBounds_toArray, List.set_cons_zero, List.set_cons_succ]); (try go_wp2_with (go_at_call 15; refine (toKindTable_any A n c B m d ss bs _ (T1.out.ext (LB15.out.ext.trans E9.out))).mono ?_; rintro e w10c ⟨g1, g2, hg1, hg12, rfl, o1, o2, he1⟩; have T2 := Lib.hid (NewTab.tab (e := .returned (.bool true)) (w' := w10c) T1.out o1 o2); have E10 := Lib.hid (E9.out.trans he1); have BX_10 := Lib.hid (he1.own BX.out); clear o1 o2 he1)); refine hK.out _ _ ?_ (fun hHeld => ?_); (focus exact ⟨E10.out.cell1 s0.out, E10.out.cell1 s1.out, E10.out.cell1 s2.out, E10.out.cell1 s3.out, E10.out.cell1 s4.out, E10.out.cell1 s5.out⟩); clear hK K; (try simp only [Act.put, List.setIfInBounds_toArray, List.set_cons_zero, List.set_cons_succ])
          refine wpAnyH_ready (rs := [3]) (by kernel_rfl) (by simp) ?_; refine AllReadyH.cons rfl (fun K hK => ?_) AllReadyH.nil; go_simp; (try simp only [Act.put, List.setIfInBounds_toArray, List.set_cons_zero, List.set_cons_succ]); (try go_wp2_with (go_at_call 41; refine (toBan_any b.A b.X b.B b.Y _).mono ?_; rintro e w11c ⟨rfl, he1⟩; have E11 := Lib.hid (E10.out.trans he1); have BX_11 := Lib.hid (he1.own BX_10.out); have EB := Lib.hid he1; clear he1)); refine hK.out _ _ ?_ (fun hHeld => ?_); (focus exact ⟨E11.out.cell1 s0.out, E11.out.cell1 s1.out, E11.out.cell1 s2.out, E11.out.cell1 s3.out, E11.out.cell1 s4.out, E11.out.cell1 s5.out⟩); clear hK K; (try simp only [Act.put, List.setIfInBounds_toArray, List.set_cons_zero, List.set_cons_succ])
          have TB := Lib.hid (T2.out.ext (show Ext _ _ from by first | exact EB.out | exact Ext.trans ((Ext.refl _).alloc _) EB.out))
          refine wpAnyH_ready (rs := [4]) (by kernel_rfl) (by simp) ?_; refine AllReadyH.cons rfl (fun K hK => ?_) AllReadyH.nil; go_simp; (try simp only [Act.put, List.setIfInBounds_toArray, List.set_cons_zero, List.set_cons_succ]); (try go_wp2_with (go_at_call 42; refine (I4.out _ _ _ (by first | exact TB.out | exact TB.out.ext ((Ext.refl _).alloc _))).mono ?_; rintro e w12c ⟨A3, n3, c3, B3, m3, d3, rfl, o3, o4, he1⟩; have E12 := Lib.hid (E11.out.trans he1); have BX_12 := Lib.hid (he1.own BX_11.out); have RI := Lib.hid (own_low' o3 (show w15.heap.size ≤ _ from E11.out.size)); have RB := Lib.hid (own_low' o4 (show w15.heap.size ≤ _ from E11.out.size)); clear o3 o4 he1)); refine hK.out _ _ ?_ (fun hHeld => ?_); (focus exact ⟨E12.out.cell1 s0.out, E12.out.cell1 s1.out, E12.out.cell1 s2.out, E12.out.cell1 s3.out, E12.out.cell1 s4.out, E12.out.cell1 s5.out⟩); clear hK K; (try simp only [Act.put, List.setIfInBounds_toArray, List.set_cons_zero, List.set_cons_succ])
          (refine wpAnyH_take (i := 5) (v := ?_) rfl (by kernel_rfl) (by kernel_rfl) (by kernel_rfl) (fun _ _ _ h => h) (Or.inl ⟨by rfl, ?_⟩) (by assumption) ?_); rotate_left 1; (focus (intro w hSw; (try dsimp only at hSw); go_simp; (try with_reducible rfl))); (try simp only [Act.put, List.setIfInBounds_toArray, List.set_cons_zero, List.set_cons_succ]); (refine wpAnyH_take (i := 6) (v := ?_) rfl (by kernel_rfl) (by kernel_rfl) (by kernel_rfl) (fun _ _ _ h => h) (Or.inl ⟨by rfl, ?_⟩) (by assumption) ?_); rotate_left 1; (focus (intro w hSw; (try dsimp only at hSw); go_simp; (try with_reducible rfl))); (try simp only [Act.put, List.setIfInBounds_toArray, List.set_cons_zero, List.set_cons_succ]); (refine wpAnyH_take (i := 7) (v := ?_) rfl (by kernel_rfl) (by kernel_rfl) (by kernel_rfl) (fun _ _ _ h => h) (Or.inl ⟨by rfl, ?_⟩) (by assumption) ?_); rotate_left 1; (focus (intro w hSw; (try dsimp only at hSw); go_simp; (try with_reducible rfl))); (try simp only [Act.put, List.setIfInBounds_toArray, List.set_cons_zero, List.set_cons_succ])
          obtain ⟨k0, gx⟩ := own_setCells [.slice A3 n3 c3, .slice B3 m3 d3] 0 _ _ BX_12.out
          have zx := (BX_12.out.lt _ rfl).1
          have EF := Lib.hid (E12.out)
          refine wpAnyH_ready (rs := [9]) (by kernel_rfl) (by simp) ?_; refine AllReadyH.cons rfl (fun K hK => ?_) AllReadyH.nil; refine step_store rfl 30 (.tmp 14) (.tmp 85) rfl w15.heap.size 0 [.slice A3 n3 c3, .slice B3 m3 d3] rfl rfl (own_there BX_12.out 0 2 (by simp)) sizeTab rfl rfl ?_; (try simp only [Act.put, List.setIfInBounds_toArray, List.set_cons_zero, List.set_cons_succ]); refine hK.out _ _ ?_ (fun hHeld => ?_); (focus exact ⟨grown_cell (A := some ⟨w15.heap.size, 0, none⟩) (m := 0) (c := 0) gx (Off.ne (by omega)) (EF.out.cell1 s0.out), grown_cell (A := some ⟨w15.heap.size, 0, none⟩) (m := 0) (c := 0) gx (Off.ne (by omega)) (EF.out.cell1 s1.out), grown_cell (A := some ⟨w15.heap.size, 0, none⟩) (m := 0) (c := 0) gx (Off.ne (by omega)) (EF.out.cell1 s2.out), grown_cell (A := some ⟨w15.heap.size, 0, none⟩) (m := 0) (c := 0) gx (Off.ne (by omega)) (EF.out.cell1 s3.out), grown_cell (A := some ⟨w15.heap.size, 0, none⟩) (m := 0) (c := 0) gx (Off.ne (by omega)) (EF.out.cell1 s4.out), grown_cell (A := some ⟨w15.heap.size, 0, none⟩) (m := 0) (c := 0) gx (Off.ne (by omega)) (EF.out.cell1 s5.out)⟩); clear hK K; (try simp only [Act.put, List.setIfInBounds_toArray, List.set_cons_zero, List.set_cons_succ])
          (refine wpAnyH_take (i := 10) (v := ?_) rfl (by kernel_rfl) (by kernel_rfl) (by kernel_rfl) (fun _ _ _ h => h) (Or.inl ⟨by rfl, ?_⟩) (by assumption) ?_); rotate_left 1; (focus (intro w hSw; (try dsimp only at hSw); go_simp; (try with_reducible rfl))); (try simp only [Act.put, List.setIfInBounds_toArray, List.set_cons_zero, List.set_cons_succ])
          refine wpAnyH_done (by kernel_rfl) ?_ _
          have RIF := Lib.hid (RI.out.kept gx (own_types RI.out BX_12.out intTab))
          have RBF := Lib.hid (RB.out.kept gx (own_types RB.out BX_12.out banTab))
          have GX := Lib.hid gx
          have BXF := Lib.hid k0
          have ZX : w15.heap.size ≤ w15.heap.size := zx
          clear k0 gx zx
          obtain ⟨W5, hW5⟩ : ∃ W5, w12c.setCells w15.heap.size 0 [.slice A3 n3 c3, .slice B3 m3 d3] = W5 := ⟨_, rfl⟩
          rw [hW5] at RIF RBF BXF GX
          rw [hW5]
          clear hW5
        rotate_left 1
        all_goals
          obtain rfl : n3 = ls.length := by have := RIF.out.1; rw [ints_length] at this; omega
          obtain rfl : m3 = cs.length := by have := RBF.out.1; rw [bans_len] at this; omega
          (try simp only [List.getElem_toArray, List.getElem_cons_succ, List.getElem_cons_zero, List.setIfInBounds_toArray, List.set_cons_succ, List.set_cons_zero])
          go_wp2
          go_meet
          exact ⟨⟨_, A3, c3, B3, d3, rfl, rfl, ⟨BXF.out, RIF.out, RBF.out, (BXF.out.lt _ rfl).2, fun k hk => (RIF.out.lt k hk).2, fun k hk => (RBF.out.lt k hk).2⟩⟩, (LB15.out.step EF.out).row GX.out (by omega), (TS15.out.step EF.out).row GX.out (Or.inr (by omega)), (TG15.out.step EF.out).row GX.out (Or.inr (by omega))⟩
      case rest =>
      obtain ⟨⟨x14, A14, c14, B14, d14, rfl, rfl, th⟩, lb4, ts4, tg4⟩ := hcut
      rename World => w16
      have LB16 := Lib.hid lb4
      have TS16 := Lib.hid ts4
      have TG16 := Lib.hid tg4
      have TH16 := Lib.hid th
      clear LB15 TS15 TG15 c0 c1 d0 d1 d2 d3 lb4 ts4 tg4 th
      have p0 := TH16.out.c0
      have p1 := TH16.out.c1
      have q0 := TS16.out.c0
      have q1 := TS16.out.c1
      have yp : x14 < w16.heap.size := TH16.out.lo_x.2
      have yq : x6 < w16.heap.size := TS16.out.lo_x.2
      have EG := Lib.hid (show TabL w16 _ _ _ _ ls cs from TH16.out.tab HLW.out.2 (by have := HCW.out.2; omega) HLW.out.1 HCW.out.1)
      have ES := Lib.hid (show TabL w16 _ _ _ _ ls cs from TS16.out.tab HLW.out.2 (by have := HCW.out.2; omega) HLW.out.1 HCW.out.1)
      go_wp2_with fail
      refine (eqKindTable_same A14 A6 _ c14 c6 B14 B6 _ d14 d6 ls cs _ EG.out ES.out).mono ?_
      rintro e w17 ⟨rfl, e17⟩
      have LB17 := Lib.hid (LB16.out.step e17)
      have TG17 := Lib.hid (TG16.out.step e17)
      clear p0 p1 yp q0 q1 yq
      clear EG ES e17 LB16 TG16
      have p0 := TG17.out.c0
      have p1 := TG17.out.c1
      have yp : x9 < w17.heap.size := TG17.out.lo_x.2
      go_wp2_with fail
      refine (heldKindTable_any A9 _ c9 B9 _ d9 1 _ (by omega) (by have := HLW.out.2; have := HCW.out.2; omega) (Rd.own TG17.out.ri) (Rd.own TG17.out.rb)).mono ?_
      rintro e w18 ⟨rfl, e18⟩
      have LB18 := Lib.hid (LB17.out.step e18)
      have TG18 := Lib.hid (TG17.out.step e18)
      clear p0 p1 yp
      clear e18 LB17 TG17
      go_wp2
      go_ret
      exact ⟨rfl, LB18.out.ext⟩
end Go.Proofs.Ytphalkeokpnpfaa

namespace Go.Proofs.Ytphalkeokpnpfaa.fnExactAddBan
open Go.ChangeShapes Go.WideShapes Go.ChangeAt Go.RowKit
open Go.ChangeMaps (open_string shut_string)
set_option linter.unusedVariables false
set_option linter.unusedSimpArgs false
theorem own : ownKnob Try.prog.godebug = none := by kernel_rfl
theorem laidOut : laidOutB Try.prog = true := by kernel_rfl
set_option maxRecDepth 100000 in
theorem lifted (os : Os) (started : os.Started) (H : Type) (enc : TypeId × Value → H) :
    ReturnsInHanded {} Try.checked os 11 .any (Rows.fnExactAddBanSpec.pre6 enc Try.prog Try.f11 Rows.fnExactAddBanRow.domain false) (Rows.fnExactAddBanSpec.post enc Try.prog Try.f11 false true false false) := by
  refine returnsInHanded_of_change (C := Try.checked) own started (by kernel_rfl) Try.func11
    (ChangeSpec.witness6 (enc := enc) (C := Try.checked) false ⟨#[], #[.agg #[.slice none 0 0, .slice none 0 0], .agg #[.int .i64 0, .int .i64 0, .int .i64 0, .int .i64 0]], []⟩ 8 (by kernel_rfl) (by kernel_rfl) (by kernel_rfl) (by kernel_rfl)) ?_
  intro W base args ds gs before hval0 hW hcnd _
  have hval : ∀ (j : Nat) t v, Try.f11.params[j]? = some t → args[j]? = some v → Value.okWide Try.prog W .any base t v := hval0
  have hW' := hW
  obtain ⟨p, q, hA0, hV, rfl, hfz, hnd⟩ := hW
  have hA : DataW.TrodAll enc Try.prog W 0 (fun _ => true) true Try.f11.params.toList args.toList ds p := hA0
  rw [Try.params11] at hA hval
  obtain ⟨v0, vs0, d0, ds0, p0, q0, hargs, rfl, rfl, h0, r0⟩ := trodAll_cons hA
  obtain ⟨v1, vs1, d1, ds1, p1, q1, rfl, rfl, rfl, h1, r1⟩ := trodAll_cons r0
  obtain ⟨rfl, rfl, rfl⟩ := trodAll_nil r1
  obtain rfl : args = #[v0, v1] := by cases args; simp_all
  obtain ⟨rfl, rfl⟩ := trodVars_none hV
  have lt0 : ∀ x ∈ p0, x.block < W.heap.size := by obtain ⟨m, hm⟩ := h0; exact DataW.trod_lt m _ _ _ hm
  have k0 := h0
  obtain ⟨A0, n0, c0, ss0, B0, m0, d0, bs0, e0, ⟨hm0, hc0, hl0, w0, rd0⟩, ⟨km0, kc0, kl0, kw0, kd0⟩⟩ := open_KindTable (hval 0 25 v0 rfl rfl) h0
  subst e0
  have lt1 : ∀ x ∈ p1, x.block < W.heap.size := by obtain ⟨m, hm⟩ := h1; exact DataW.trod_lt m _ _ _ hm
  have k1 := h1
  obtain ⟨s1, e1, w1⟩ := open_Ban (hval 1 54 v1 rfl rfl) h1
  subst e1
  clear hA0 hval0
  refine (FnExactAddBan_any A0 n0 c0 B0 m0 d0 ss0 bs0 s1 W (Nat.le_trans hc0 hm0) (Nat.le_trans kc0 km0) hl0 kl0 w0 kw0 w1 rd0 kd0).mono fun e W' ⟨he, bel⟩ => ?_
  subst he
  replace bel := Ext.below bel
  exact ⟨_, rfl, _, _, _, [], _, [], hW', trodAll_mk1 (shut_bool Try.underlying4 _), (trodAll_cons_mk (Below.trod laidOut (by kernel_rfl) (of_decide_eq_true (by kernel_rfl)) k0 bel lt0) (trodAll_cons_mk (Below.trod laidOut (by kernel_rfl) (of_decide_eq_true (by kernel_rfl)) k1 bel lt1) trodAll_mk0)), rfl, bel.frame _, fun h => by cases h⟩
theorem over : Rows.fnExactAddBanRow.holds Try.pinned (OpenSpec.ofChange Rows.fnExactAddBanSpec) :=
  OpenClaim.holds_of_wide 11 Try.f11 rfl rfl rfl rfl rfl rfl rfl ⟨rfl, rfl, rfl, rfl, rfl⟩ rfl rfl rfl rfl rfl (by kernel_rfl) Try.func11 (by kernel_rfl)
    (of_decide_eq_true (by kernel_rfl)) (by unfold Func.isWrapper; first | (rw [if_pos (by decide +kernel)]; kernel_rfl) | (rw [if_neg (by decide +kernel)]; exact ⟨rfl, rfl⟩))
    (fun os started H enc _ => lifted os started H enc)
theorem proved : Rows.FnExactAddBanSaid := over
#print axioms proved
end Go.Proofs.Ytphalkeokpnpfaa.fnExactAddBan

