/- Lists of lists of numbers in memory; slices.Clone of numbers. -/
import Derived.Test.YtekggbmpogmlcaaDoorProd
import Derived.Lib.SliceRun
namespace Go.Proofs.YtekggbmpogmlcaaDoor
open Go.RowKit
set_option linter.unusedVariables false
set_option linter.unusedSimpArgs false
attribute [local go_sem] ExtOf.cell

theorem Ext.cellp {w w' : World} (h : Ext w w') {p : Addr} {u : Value} (hc : w.cell? p = some u) : w'.cell? p = some u :=
  (Below.cell (p := p) h (World.block_lt_of_cell? w _ hc)).trans hc
/-- Two rows of different element types lie in different blocks. -/
theorem own_types {w : World} {b b' T T' s s' n n' : Nat} {v v' : Value} {xs xs' : List Value} (h : w.ownsRow b T s v n xs) (h' : w.ownsRow b' T' s' v' n' xs') (hT : T ≠ T') : v.ownBlock = none ∨ v.ownBlock ≠ v'.ownBlock := by
  rcases h.2 with ⟨h1, _⟩ | ⟨g, cap, cur, h1, _, h3, _⟩
  · left; rw [h1]; rfl
  · rcases h'.2 with ⟨k1, _⟩ | ⟨g', cap', cur', k1, _, k3, _⟩
    · right; rw [h1, k1]; simp [Value.ownBlock]
    · right; rw [h1, k1]; simp only [Value.ownBlock]
      intro e; injection e with e; subst e
      rw [h3] at k3; injection k3 with k3; injection k3 with _ k4 _; exact hT k4
/-- A list of lists in memory: the outer row's values, each with the numbers that it reads as. -/
structure Lists (w : World) (base : Nat) (v : Value) (zs : List (Value × List Int)) : Prop where
  row : w.ownsRow base 24 1 v zs.length (zs.map Prod.fst)
  each : ∀ z ∈ zs, w.ownsRow base 3 1 z.1 z.2.length (ints z.2)
theorem Lists.ext {w w' : World} {base : Nat} {v : Value} {zs : List (Value × List Int)} (h : Lists w base v zs) (he : Ext w w') : Lists w' base v zs :=
  ⟨he.own h.row, fun z hz => he.own (h.each z hz)⟩
theorem Lists.nil (w : World) (base : Nat) : Lists w base (.slice none 0 0) [] := ⟨own_nil _ _ _ _, fun z hz => by cases hz⟩
theorem intT : (3 : Nat) ≠ 24 := by decide
theorem Lists.push {w w' : World} {base : Nat} {v v' : Value} {zs : List (Value × List Int)} {u : Value} {l : List Int} (h : Lists w base v zs) (hu : w.ownsRow base 3 1 u l.length (ints l))
    (hg : w.grownBy w' v.ownBlock) (hr : w'.ownsRow base 24 1 v' (zs.length + 1) (zs.map Prod.fst ++ [u])) : Lists w' base v' (zs ++ [(u, l)]) := by
  refine ⟨by simpa using hr, fun z hz => ?_⟩
  rcases List.mem_append.1 hz with hz | hz
  · exact (h.each z hz).kept hg (own_types (h.each z hz) h.row intT)
  · simp only [List.mem_singleton] at hz
    subst hz
    exact hu.kept hg (own_types hu h.row intT)
/-- Element k: its value, its numbers, the cell that holds it. -/
theorem Lists.get {w : World} {base : Nat} {A : Option Addr} {n c : Nat} {zs : List (Value × List Int)} (h : Lists w base (.slice A n c) zs) {k : Nat} (hk : k < n) (hn : zs.length = n) :
    ∃ (g : Nat) (B : Option Addr) (e : Nat) (l : List Int), A = some ⟨g, 0, none⟩ ∧ g < w.heap.size ∧ Hid (zs[k]? = some (.slice B l.length e, l)) ∧ w.cell? ⟨g, k, none⟩ = some (.slice B l.length e) ∧ w.ownsRow base 3 1 (.slice B l.length e) l.length (ints l) := by
  subst hn
  have hx : zs[k]? = some zs[k] := List.getElem?_eq_getElem hk
  have ho := h.each zs[k] (List.getElem_mem hk)
  obtain ⟨B, e, hv⟩ := own_slice ho
  obtain ⟨g, cap, hv', hb, hlt⟩ := h.row.form (by omega)
  injection hv' with hA
  subst hA
  refine ⟨g, B, e, zs[k].2, rfl, hlt, ?_, ?_, ?_⟩
  · rw [← hv]; exact hx
  · refine own_at h.row ?_
    rw [← hv]; simp [hk]
  · rw [← hv]; exact ho

set_option maxRecDepth 100000 in
set_option maxHeartbeats 1000000 in
theorem CloneI_any (A : Option Addr) (n c : Nat) (l : List Int) (w : World) (hn : n ≤ 1048576) (hr : Rd w A n 1 (ints l)) :
    Calls Tryd.prog 38 #[.slice A n c] w fun e w' => ∃ A' c', e = .returned (.slice A' n c') ∧ w'.ownsRow w.heap.size 3 1 (.slice A' n c') n (ints l) ∧ Ext w w' := by
  obtain ⟨i0, hi, hz0, hz1, hz2⟩ := info_parts intInfo
  have hq : ∀ (w : World) (a : Option Addr) (n c n' c' : Nat), (binOp .eql 24 (.slice a n c) (.slice none n' c')).run Tryd.prog w = .ok (.bool a.isNone) w := fun w a n c n' c' => Lib.run_eql_slice_nil w _ _ a n c n' c' Tryd.underlying24
  cases A with
  | none =>
    obtain rfl : n = 0 := by
      rcases Nat.eq_zero_or_pos n with h | h
      · exact h
      · obtain ⟨b, off, e, _⟩ := hr.2 h; cases e
    obtain rfl : l = [] := by
      have := hr.1; rw [ints_length] at this; exact List.eq_nil_of_length_eq_zero (by omega)
    go_enter Tryd.func38, Tryd.ntmps38
    go_wp2
    go_ret
    exact ⟨none, 0, rfl, own_nil _ _ _ _, Ext.refl _⟩
  | some a =>
    have HC : ∀ j u, (ints l)[j]? = some u → w.cell? (a.add j) = some u := fun j u hj => by
      have hl := (List.getElem?_eq_some_iff.1 hj).1
      have h1 := hr.1
      obtain ⟨b, off, e, _, hc⟩ := hr.2 (by omega)
      injection e with e; subst e
      rw [Addr.add_mid]; exact hc j u hj
    have HC := Lib.hid HC
    have HL := Lib.hid hr.1
    clear hr
    go_enter Tryd.func38, Tryd.ntmps38
    go_wp2_with (at_builtin; refine wpList_append_own _ rfl _ _ 24 rfl w.heap.size 3 i0 (.int .i64 0) 1 8 Tryd.underlying24 hi hz0 hz1 hz2 rfl (by decide) _ _ _ rfl (World.ownsRow_made w #[] 0 (Nat.le_refl _) (Nat.zero_le _) rfl) a n c (ints l) rfl ?qc1 ?qc2 ?qc3 ?qc4 ?qc5 ?qc6 ?_)
    case qc1 => exact HL.out
    case qc2 => exact fun j u hj => ((Ext.refl w).alloc _).cellp (HC.out j u hj)
    case qc3 => intro u hu; obtain ⟨x, _, rfl⟩ := List.mem_map.1 hu; rfl
    case qc4 => unfold maxLen; omega
    case qc5 => omega
    case qc6 => simp
    intro v' w1 hown hgrow hnil
    go_wp2
    go_ret
    obtain ⟨A', c', rfl⟩ := own_slice hown
    trace_state
    exact ⟨A', c', by simp, hown, ((Ext.refl w).alloc _).grown hgrow (by intro k hk; simp [Value.ownBlock] at hk; omega)⟩
end Go.Proofs.YtekggbmpogmlcaaDoor
