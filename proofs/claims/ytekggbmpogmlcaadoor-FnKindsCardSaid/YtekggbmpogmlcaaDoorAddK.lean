/- AddBan: what its regions keep (made by wip/addban.py). -/
import Derived.Test.YtekggbmpogmlcaaDoorSearchB
import Derived.Test.YtekggbmpogmlcaaDoorNeedS
namespace Go.Proofs.YtekggbmpogmlcaaDoor
open Go.RowKit
set_option linter.unusedVariables false
set_option linter.unusedSimpArgs false
attribute [local go_sem] ExtOf.cell

/-- What AddBan keeps: the boxes of the table and of the ban, the cell of the result. -/
structure ASt (w : World) (u0 u1 : Value) (b : Ban) (W : World) : Prop where
  ext : Ext w W
  c0 : W.cell? ⟨w.heap.size, 0, none⟩ = some u0
  c1 : W.cell? ⟨w.heap.size, 1, none⟩ = some u1
  d0 : W.cell? ⟨w.heap.size + 1, 0, none⟩ = some (.int .i64 b.A)
  d1 : W.cell? ⟨w.heap.size + 1, 1, none⟩ = some (.int .i64 b.X)
  d2 : W.cell? ⟨w.heap.size + 1, 2, none⟩ = some (.int .i64 b.B)
  d3 : W.cell? ⟨w.heap.size + 1, 3, none⟩ = some (.int .i64 b.Y)
  r : W.ownsRow 0 27 2 (.slice (some ⟨w.heap.size + 2, 0, none⟩) 1 1) 1 [.slice none 0 0, .slice none 0 0]
theorem ASt.lt {w W : World} {u0 u1 : Value} {b : Ban} (h : ASt w u0 u1 b W) : w.heap.size + 2 < W.heap.size := (h.r.lt _ rfl).2
theorem ASt.step {w W W' : World} {u0 u1 : Value} {b : Ban} (h : ASt w u0 u1 b W) (he : Ext W W') : ASt w u0 u1 b W' :=
  ⟨h.ext.trans he, he.cell1 h.c0, he.cell1 h.c1, he.cell1 h.d0, he.cell1 h.d1, he.cell1 h.d2, he.cell1 h.d3, he.own h.r⟩
theorem ASt.row {w W W' : World} {u0 u1 : Value} {b : Ban} (h : ASt w u0 u1 b W) {g : Nat} (hg : W.grownBy W' (some g)) (hlt : w.heap.size + 2 < g) : ASt w u0 u1 b W' :=
  have hc : ∀ {x o : Nat} {u : Value}, x ≠ g → W.cell? ⟨x, o, none⟩ = some u → W'.cell? ⟨x, o, none⟩ = some u := fun hb hc => grown_cell (A := some ⟨g, 0, none⟩) (m := 0) (c := 0) hg (Off.ne (Ne.symm hb)) hc
  ⟨h.ext.row hg (by omega), hc (by omega) h.c0, hc (by omega) h.c1, hc (by omega) h.d0, hc (by omega) h.d1, hc (by omega) h.d2, hc (by omega) h.d3, h.r.kept hg (Off.ne (o := 0) (by omega)).row⟩
theorem ASt.grow {w W W' : World} {u0 u1 : Value} {b : Ban} (h : ASt w u0 u1 b W) {v : Value} {T s q : Nat} {cs : List Value} (hg : W.grownBy W' v.ownBlock) (ho : W.ownsRow (w.heap.size + 3) T s v q cs) : ASt w u0 u1 b W' := by
  rcases hv : v.ownBlock with _ | g
  · rw [hv] at hg
    have he : Ext W W' := ⟨hg.os, hg.tape, hg.output, hg.size, fun k hk => hg.block k hk (by simp)⟩
    exact h.step he
  · rw [hv] at hg
    exact h.row hg (by have := (ho.lt g hv).1; omega)
theorem ASt.new (w : World) (u0 u1 : Value) (b : Ban) : ASt w u0 u1 b (((w.alloc (.cells #[u0, u1] 27)).alloc (.cells #[.int .i64 b.A, .int .i64 b.X, .int .i64 b.B, .int .i64 b.Y] 61)).alloc (.cells #[.slice none 0 0, .slice none 0 0] 27)) := by
  have e1 : Ext w (w.alloc (.cells #[u0, u1] 27)) := (Ext.refl w).alloc _
  have h1 : (w.alloc (.cells #[u0, u1] 27)).heap.size = w.heap.size + 1 := by simp
  have h2 : ((w.alloc (.cells #[u0, u1] 27)).alloc (.cells #[.int .i64 b.A, .int .i64 b.X, .int .i64 b.B, .int .i64 b.Y] 61)).heap.size = w.heap.size + 2 := by simp
  have k := fun j v hv => new_cell (w.alloc (.cells #[u0, u1] 27)) #[.int .i64 b.A, .int .i64 b.X, .int .i64 b.B, .int .i64 b.Y] 61 j v hv
  rw [h1] at k
  have r := own_block ((w.alloc (.cells #[u0, u1] 27)).alloc (.cells #[.int .i64 b.A, .int .i64 b.X, .int .i64 b.B, .int .i64 b.Y] 61)) 27 [.slice none 0 0, .slice none 0 0]
  rw [h2] at r
  have e23 := ((Ext.refl (w.alloc (.cells #[u0, u1] 27))).alloc (.cells #[.int .i64 b.A, .int .i64 b.X, .int .i64 b.B, .int .i64 b.Y] 61)).alloc (.cells #[.slice none 0 0, .slice none 0 0] 27)
  have e3 := (Ext.refl ((w.alloc (.cells #[u0, u1] 27)).alloc (.cells #[.int .i64 b.A, .int .i64 b.X, .int .i64 b.B, .int .i64 b.Y] 61))).alloc (.cells #[.slice none 0 0, .slice none 0 0] 27)
  exact ⟨e1.trans e23, e23.cell1 (new_cell _ _ _ 0 _ rfl), e23.cell1 (new_cell _ _ _ 1 _ rfl), e3.cell1 (k 0 _ rfl), e3.cell1 (k 1 _ rfl), e3.cell1 (k 2 _ rfl), e3.cell1 (k 3 _ rfl), own_low' r (Nat.zero_le _)⟩
def okA (ss : List Int) (bs : List Ban) (b : Ban) : Bool := TabOk ss bs && TabOk ss (insB bs b)
/-- A table, and whether there is one. -/
def TabPost (ok : Bool) (ss : List Int) (bs : List Ban) (w : World) (e : Ending) (w' : World) : Prop :=
  ∃ (A : Option Addr) (n c : Nat) (B : Option Addr) (m d : Nat), e = .returned (.tuple #[.agg #[.slice A n c, .slice B m d], .bool ok]) ∧ w'.ownsRow w.heap.size 3 1 (.slice A n c) n (ints (if ok then ss else [])) ∧ w'.ownsRow w.heap.size 61 4 (.slice B m d) m ((if ok then bs else []).flatMap Ban.cs) ∧ Ext w w'
end Go.Proofs.YtekggbmpogmlcaaDoor
