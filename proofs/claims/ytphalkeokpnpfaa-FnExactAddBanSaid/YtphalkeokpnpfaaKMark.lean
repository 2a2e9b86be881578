/- Marks in a table of kinds; what the laws over a table keep from step to step. -/
import Derived.Test.YtphalkeokpnpfaaBanM
import Derived.Test.YtphalkeokpnpfaaLists
import Derived.Test.YtphalkeokpnpfaaTabLaw1
import Derived.Test.YtphalkeokpnpfaaApp
namespace Go.Proofs.Ytphalkeokpnpfaa
open Go.RowKit
set_option linter.unusedVariables false
set_option linter.unusedSimpArgs false
attribute [local go_sem] ExtOf.cell

/-- Two blocks have been written, one behind the other. -/
def Marked (w w' : World) (g1 g2 : Nat) : Prop := ∃ wm, w.grownBy wm (some g1) ∧ wm.grownBy w' (some g2)
theorem Marked.own {w w' : World} {g1 g2 : Nat} (h : Marked w w' g1 g2) {base T size n : Nat} {v : Value} {cs : List Value} (ho : w.ownsRow base T size v n cs) (h1 : ∀ k, v.ownBlock = some k → k ≠ g1) (h2 : ∀ k, v.ownBlock = some k → k ≠ g2) : w'.ownsRow base T size v n cs := by
  obtain ⟨wm, k1, k2⟩ := h
  exact (ho.kept k1 (ne_row h1)).kept k2 (ne_row h2)
theorem Marked.cell {w w' : World} {g1 g2 : Nat} (h : Marked w w' g1 g2) {b o : Nat} {u : Value} (hc : w.cell? ⟨b, o, none⟩ = some u) (h1 : b ≠ g1) (h2 : b ≠ g2) : w'.cell? ⟨b, o, none⟩ = some u := by
  obtain ⟨wm, k1, k2⟩ := h
  have := grown_cell (A := some ⟨g1, 0, none⟩) (m := 0) (c := 0) k1 (Off.ne (Ne.symm h1)) hc
  exact grown_cell (A := some ⟨g2, 0, none⟩) (m := 0) (c := 0) k2 (Off.ne (Ne.symm h2)) this
theorem Marked.ext {a w w' : World} {g1 g2 : Nat} (h : Marked w w' g1 g2) (he : Ext a w) (h1 : a.heap.size ≤ g1) (h2 : a.heap.size ≤ g2) : Ext a w' := by
  obtain ⟨wm, k1, k2⟩ := h
  exact (he.row k1 h1).row k2 h2

set_option maxRecDepth 100000 in
set_option maxHeartbeats 1000000 in
theorem markKindTable_any (g1 g2 n m c d : Nat) (ss : List Int) (cs : List Value) (k : Int) (w : World) (hg : g1 ≠ g2) (h1 : 1 ≤ k) (h2 : k + n + 4 * m ≤ 100000000) (o1 : w.ownsRow 0 3 1 (.slice (some ⟨g1, 0, none⟩) n c) n (ints ss)) (o2 : w.ownsRow 0 57 4 (.slice (some ⟨g2, 0, none⟩) m d) m cs) :
    Calls Try.prog 28 #[.agg #[.slice (some ⟨g1, 0, none⟩) n c, .slice (some ⟨g2, 0, none⟩) m d], .int .i64 k] w fun e w' => e = .returned (.int .i64 (k + n + 4 * m)) ∧ Marked w w' g1 g2 := by
  have O1 := Lib.hid (o1.alloc (.cells #[.slice (some ⟨g1, 0, none⟩) n c, .slice (some ⟨g2, 0, none⟩) m d] 30))
  have O2 := Lib.hid (o2.alloc (.cells #[.slice (some ⟨g1, 0, none⟩) n c, .slice (some ⟨g2, 0, none⟩) m d] 30))
  have z1 : g1 < w.heap.size := (o1.lt _ rfl).2
  have z2 : g2 < w.heap.size := (o2.lt _ rfl).2
  clear o1 o2
  go_enter Try.func28, Try.ntmps28
  go_wp2_with fail
  refine (markIntS_any (some ⟨g1, 0, none⟩) n c 0 ss k _ h1 (by omega) O1.out).mono ?_
  rintro e w1 ⟨rfl, p1, q1⟩
  have q1' : (w.alloc (.cells #[.slice (some ⟨g1, 0, none⟩) n c, .slice (some ⟨g2, 0, none⟩) m d] 30)).grownBy w1 (some g1) := q1
  have O3 := Lib.hid (O2.out.kept q1' (Off.ne (o := 0) (Ne.symm hg)).row)
  have c1 : w1.cell? ⟨w.heap.size, 1, none⟩ = some (.slice (some ⟨g2, 0, none⟩) m d) := grown_cell (A := some ⟨g1, 0, none⟩) (m := n) (c := c) q1 (Off.ne (by omega)) (new_cell _ _ _ 1 _ rfl)
  have Q1 := Lib.hid ((World.grownBy_alloc w _ _).trans q1')
  clear p1 q1 q1'
  go_wp2_with fail
  refine (markBanS_any g2 m d 0 cs (k + n) _ (by omega) (by omega) O3.out).mono ?_
  rintro e w2 ⟨rfl, q2⟩
  go_wp2
  go_ret
  exact ⟨ret_int rfl, w1, Q1.out, q2⟩

/-- What the law keeps: the two boxes' cells, the reference's result, the program's result. -/
structure KSt (w0 : World) (b1 b2 : Nat) (a0 a1 u0 u1 : Value) (T size : Nat) (v3 v5 : Value) (q : Nat) (cs cs5 : List Value) (w : World) : Prop where
  c0 : w.cell? ⟨b1, 0, none⟩ = some a0
  c1 : w.cell? ⟨b1, 1, none⟩ = some a1
  x0 : w.cell? ⟨b2, 0, none⟩ = some u0
  x1 : w.cell? ⟨b2, 1, none⟩ = some u1
  o3 : w.ownsRow 0 T size v3 q cs
  o5 : w.ownsRow 0 T size v5 q cs5
  ext : Ext w0 w
section
variable {w0 : World} {b1 b2 : Nat} {a0 a1 u0 u1 : Value} {T size : Nat} {v3 v5 : Value} {q : Nat} {cs cs5 : List Value} {w w' : World}
theorem KSt.step (h : KSt w0 b1 b2 a0 a1 u0 u1 T size v3 v5 q cs cs5 w) (he : Ext w w') : KSt w0 b1 b2 a0 a1 u0 u1 T size v3 v5 q cs cs5 w' :=
  ⟨he.cell1 h.c0, he.cell1 h.c1, he.cell1 h.x0, he.cell1 h.x1, he.own h.o3, he.own h.o5, h.ext.trans he⟩
theorem KSt.row (h : KSt w0 b1 b2 a0 a1 u0 u1 T size v3 v5 q cs cs5 w) {g : Nat} (hg : w.grownBy w' (some g)) (h1 : b1 ≠ g) (h2 : b2 ≠ g) (h3 : ∀ k, v3.ownBlock = some k → k ≠ g) (h5 : ∀ k, v5.ownBlock = some k → k ≠ g) (h0 : w0.heap.size ≤ g) : KSt w0 b1 b2 a0 a1 u0 u1 T size v3 v5 q cs cs5 w' :=
  have hc : ∀ {b o : Nat} {u : Value}, b ≠ g → w.cell? ⟨b, o, none⟩ = some u → w'.cell? ⟨b, o, none⟩ = some u := fun hb hc => grown_cell (A := some ⟨g, 0, none⟩) (m := 0) (c := 0) hg (Off.ne (Ne.symm hb)) hc
  ⟨hc h1 h.c0, hc h1 h.c1, hc h2 h.x0, hc h2 h.x1, h.o3.kept hg (ne_row h3), h.o5.kept hg (ne_row h5), h.ext.row hg h0⟩
theorem KSt.marked (h : KSt w0 b1 b2 a0 a1 u0 u1 T size v3 v5 q cs cs5 w) {g1 g2 : Nat} (hm : Marked w w' g1 g2) (h1 : b1 ≠ g1 ∧ b1 ≠ g2) (h2 : b2 ≠ g1 ∧ b2 ≠ g2) (h3 : ∀ k, v3.ownBlock = some k → k ≠ g1 ∧ k ≠ g2) (h5 : ∀ k, v5.ownBlock = some k → k ≠ g1 ∧ k ≠ g2) (h0 : w0.heap.size ≤ g1 ∧ w0.heap.size ≤ g2) : KSt w0 b1 b2 a0 a1 u0 u1 T size v3 v5 q cs cs5 w' := by
  obtain ⟨wm, k1, k2⟩ := hm
  exact (h.row k1 h1.1 h2.1 (fun k hk => (h3 k hk).1) (fun k hk => (h5 k hk).1) h0.1).row k2 h1.2 h2.2 (fun k hk => (h3 k hk).2) (fun k hk => (h5 k hk).2) h0.2
theorem KSt.result (h : KSt w0 b1 b2 a0 a1 u0 u1 T size v3 v5 q cs cs5 w) {cs5' : List Value} (hg : w.grownBy w' v5.ownBlock) (ho : w'.ownsRow 0 T size v5 q cs5') {M : Nat} (h1 : b1 < M) (h2 : b2 < M) (h3 : ∀ k, v3.ownBlock = some k → k < M) (h5 : ∀ k, v5.ownBlock = some k → M ≤ k) (h0 : w0.heap.size ≤ M) : KSt w0 b1 b2 a0 a1 u0 u1 T size v3 v5 q cs cs5' w' := by
  obtain ⟨A, c, rfl⟩ := own_slice h.o5
  have hoff : ∀ b, b < M → Off A b := fun b hb => by
    intro x o s e
    subst e
    have := h5 x rfl
    omega
  exact ⟨grown_cell hg (hoff _ h1) h.c0, grown_cell hg (hoff _ h1) h.c1, grown_cell hg (hoff _ h2) h.x0, grown_cell hg (hoff _ h2) h.x1, h.o3.kept hg (ne_blocks h3 h5), ho, h.ext.grown hg (fun k hk => by have := h5 k hk; omega)⟩
end
end Go.Proofs.Ytphalkeokpnpfaa
