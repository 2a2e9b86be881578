/- Lists of pairs of names in memory; the pairs of shades that overlap. -/
import Derived.Test.YtekfccfghmggmaaOwn
import Derived.Test.YtekfccfghmggmaaMark2
import Derived.Test.YtekfccfghmggmaaShadeO
import Derived.Test.YtekfccfghmggmaaShade2
namespace Go.Proofs.Ytekfccfghmggmaa
open Go.RowKit
set_option linter.unusedVariables false
set_option linter.unusedSimpArgs false
attribute [local go_sem] ExtOf.cell

abbrev Pr := Nat × ByteArray × ByteArray
def prV (z : Pr) : Value := .slice (some ⟨z.1, 0, none⟩) 2 2
def prS (z : Pr) : List Value := strs [z.2.1, z.2.2]
/-- A list of pairs of names in memory: the outer row; each pair in a block of its own. -/
structure Prs (w : World) (base : Nat) (v : Value) (zs : List Pr) : Prop where
  row : w.ownsRow base 40 1 v zs.length (zs.map prV)
  each : ∀ z ∈ zs, w.ownsRow base 9 1 (prV z) 2 (prS z)
  apart : zs.Pairwise fun a b => a.1 < b.1
theorem strT : (9 : Nat) ≠ 40 := by decide
section
variable {w w' : World} {base : Nat} {v v' : Value} {zs : List Pr}
theorem Prs.ext (h : Prs w base v zs) (he : Ext w w') : Prs w' base v zs := ⟨he.own h.row, fun z hz => he.own (h.each z hz), h.apart⟩
theorem Prs.at_lt (h : Prs w base v zs) {z : Pr} (hz : z ∈ zs) : base ≤ z.1 ∧ z.1 < w.heap.size := (h.each z hz).lt z.1 rfl
theorem Prs.nil (w : World) (base : Nat) : Prs w base (.slice none 0 0) [] := ⟨own_nil _ _ _ _, fun z hz => (by cases hz), List.Pairwise.nil⟩
theorem Prs.empty (w : World) : Prs (w.alloc (.cells #[] 40)) w.heap.size (.slice (some ⟨w.heap.size, 0, none⟩) 0 0) [] := ⟨own_empty w _ _ _ (Nat.le_refl _), fun z hz => (by cases hz), List.Pairwise.nil⟩
/-- A pair in a new block is appended. -/
theorem Prs.push (h : Prs w base v zs) {q : Nat} {a b : ByteArray} (hu : w.ownsRow base 9 1 (.slice (some ⟨q, 0, none⟩) 2 2) 2 (strs [a, b])) (hq : ∀ z ∈ zs, z.1 < q)
    (hg : w.grownBy w' v.ownBlock) (hr : w'.ownsRow base 40 1 v' (zs.length + 1) (zs.map prV ++ [.slice (some ⟨q, 0, none⟩) 2 2])) : Prs w' base v' (zs ++ [(q, a, b)]) := by
  refine ⟨by simpa [prV] using hr, fun z hz => ?_, ?_⟩
  · rcases List.mem_append.1 hz with hz | hz
    · exact (h.each z hz).kept hg (own_types (h.each z hz) h.row strT)
    · simp only [List.mem_singleton] at hz
      subst hz
      exact World.ownsRow.kept hu hg (own_types hu h.row strT)
  · rw [List.pairwise_append]
    exact ⟨h.apart, List.pairwise_singleton _ _, fun x hx y hy => by simp only [List.mem_singleton] at hy; subst hy; exact hq x hx⟩
theorem Prs.get {A : Option Addr} {n c : Nat} (h : Prs w base (.slice A n c) zs) {k : Nat} (hk : k < n) (hn : zs.length = n) :
    ∃ (g : Nat) (z : Pr), A = some ⟨g, 0, none⟩ ∧ g < w.heap.size ∧ Hid (zs[k]? = some z) ∧ w.cell? ⟨g, k, none⟩ = some (.slice (some ⟨z.1, 0, none⟩) 2 2) ∧ w.ownsRow base 9 1 (.slice (some ⟨z.1, 0, none⟩) 2 2) 2 (strs [z.2.1, z.2.2]) := by
  subst hn
  obtain ⟨g, cap, hv', hb, hlt⟩ := h.row.form (by omega)
  injection hv' with hA
  subst hA
  refine ⟨g, zs[k], rfl, hlt, List.getElem?_eq_getElem hk, own_at h.row (by rw [List.getElem?_map, List.getElem?_eq_getElem hk]; rfl), h.each _ (List.getElem_mem hk)⟩
/-- What changes lies elsewhere. -/
theorem Prs.kept (h : Prs w base v zs) {o : Option Nat} (hg : w.grownBy w' o) (hv : v.ownBlock = none ∨ v.ownBlock ≠ o) (hz : ∀ z ∈ zs, some z.1 ≠ o) : Prs w' base v zs :=
  ⟨h.row.kept hg hv, fun z hm => (h.each z hm).kept hg (.inr (hz z hm)), h.apart⟩
theorem own_below {w w' : World} {base T size n B : Nat} {v : Value} {cs : List Value} (h : w.ownsRow base T size v n cs) (hb : Below B w w') (hv : ∀ q, v.ownBlock = some q → q < B) : w'.ownsRow base T size v n cs := by
  refine ⟨h.1, ?_⟩
  rcases h.2 with hn | ⟨g, cap, cur, h1, h2, h3, h4⟩
  · exact .inl hn
  · refine .inr ⟨g, cap, cur, h1, h2, ?_, h4⟩
    rw [Below.block hb g (hv g (by rw [h1]; rfl))]; exact h3
theorem Ext.trans_below {a b c : World} {B : Nat} (h : Ext a b) (k : Below B b c) (hB : a.heap.size ≤ B) : Ext a c := Below.trans h (Below.mono k hB)
theorem Prs.below {B : Nat} (h : Prs w base v zs) (hb : Below B w w') (hv : ∀ q, v.ownBlock = some q → q < B) (hz : ∀ z ∈ zs, z.1 < B) : Prs w' base v zs :=
  ⟨own_below h.row hb hv, fun z hm => own_below (h.each z hm) hb (fun q hq => by injection hq with hq; subst hq; exact hz z hm), h.apart⟩
end

def meetS (x y : Shade) : Bool := meet x.Hue x.Width x.Dark x.Light y.Hue y.Width y.Dark y.Light
def rowOf (x : Shade) (ys : List Shade) : List (ByteArray × ByteArray) := (ys.filter (meetS x)).map fun y => (x.Name, y.Name)
def pairsUp (xs : List Shade) : Nat → List (ByteArray × ByteArray)
  | 0 => []
  | k + 1 => pairsUp xs k ++ (match xs[k]? with | some x => rowOf x (xs.drop (k + 1)) | none => [])
def pairsR (xs : List Shade) : List (ByteArray × ByteArray) := if shadesOk xs then pairsUp xs xs.length else []
theorem pairs_next {xs : List Shade} {k : Nat} {x : Shade} (hx : xs[k]? = some x) : pairsUp xs (k + 1) = pairsUp xs k ++ rowOf x (xs.drop (k + 1)) := by simp [pairsUp, hx]
theorem row_no {x y : Shade} {ys : List Shade} {j : Nat} (hy : ys[j]? = some y) (h : meetS x y = false) : rowOf x (ys.take (j + 1)) = rowOf x (ys.take j) := by
  obtain ⟨hk, e⟩ := List.getElem?_eq_some_iff.1 hy
  simp [rowOf, List.take_succ_eq_append_getElem hk, List.filter_append, e, h]
theorem row_yes {x y : Shade} {ys : List Shade} {j : Nat} (hy : ys[j]? = some y) (h : meetS x y = true) : rowOf x (ys.take (j + 1)) = rowOf x (ys.take j) ++ [(x.Name, y.Name)] := by
  obtain ⟨hk, e⟩ := List.getElem?_eq_some_iff.1 hy
  simp [rowOf, List.take_succ_eq_append_getElem hk, List.filter_append, e, h]
theorem row_len (x : Shade) (ys : List Shade) : (rowOf x ys).length ≤ ys.length := by
  unfold rowOf; rw [List.length_map]; exact List.length_filter_le _ _
theorem pairs_len (xs : List Shade) : ∀ k, (pairsUp xs k).length ≤ k * xs.length
  | 0 => by simp [pairsUp]
  | k + 1 => by
    have := pairs_len xs k
    rw [pairsUp, List.length_append, Nat.add_mul, Nat.one_mul]
    cases hx : xs[k]? with
    | none => simp; omega
    | some x => have h2 := row_len x (xs.drop (k + 1)); rw [List.length_drop] at h2; simp only; omega
theorem shadesOk_len {xs : List Shade} (h : shadesOk xs = true) : xs.length ≤ 12 := by
  simp only [shadesOk, Bool.and_eq_true, decide_eq_true_eq] at h
  exact h.2
theorem pairsR_len (xs : List Shade) : (pairsR xs).length ≤ 144 := by
  unfold pairsR
  split
  · rename_i h
    have h1 := pairs_len xs xs.length
    have h2 := shadesOk_len h
    have h3 : xs.length * xs.length ≤ 12 * 12 := Nat.mul_le_mul h2 h2
    omega
  · simp
def PrsPost (L : List (ByteArray × ByteArray)) (ok : Bool) (w : World) (e : Ending) (w' : World) : Prop :=
  ∃ (A : Option Addr) (m c : Nat) (zs : List Pr), e = .returned (.tuple #[.slice A m c, .bool ok]) ∧ zs.length = m ∧ zs.map (·.2) = L ∧ Prs w' w.heap.size (.slice A m c) zs ∧ Ext w w'
theorem prsInfo : (Try.prog.info? 40).map (fun i => (i.zero, i.size, i.bytes)) = some (some (.slice none 0 0), 1, 24) := by kernel_rfl
end Go.Proofs.Ytekfccfghmggmaa
