/- NeedlessBans: the program's and the reference's entries. -/
import Derived.Test.YtekggbmpogmlcaaDoorBanD
import Derived.Deep.RegionHeld3
namespace Go.Proofs.YtekggbmpogmlcaaDoor
open Go.RowKit
set_option linter.unusedVariables false
set_option linter.unusedSimpArgs false
attribute [local go_sem] ExtOf.cell

/-- Without ban i just as many kinds are compatible. -/
def needP (ss : List Int) (bs : List Ban) (i : Nat) : Bool := decide ((frees ss (bs.eraseIdx i)).length = (frees ss bs).length)
def needR (ss : List Int) (bs : List Ban) : List Int := if TabOk ss bs then idxs (needP ss bs) bs.length else []
theorem needR_yes {ss : List Int} {bs : List Ban} (h : TabOk ss bs = true) : needR ss bs = idxs (needP ss bs) bs.length := by unfold needR; rw [if_pos h]
theorem needR_no {ss : List Int} {bs : List Ban} (h : TabOk ss bs = false) : needR ss bs = [] := by unfold needR; rw [h]; rfl
theorem needR_len (ss : List Int) (bs : List Ban) : (needR ss bs).length ≤ 10000 := by
  cases h : TabOk ss bs
  · rw [needR_no h]; exact Nat.zero_le _
  · obtain ⟨_, t3, _⟩ := TabOk_all h
    rw [needR_yes h]; have := idxs_len (needP ss bs) bs.length; omega
def NeedPost (L : List Int) (ok : Bool) (w : World) : Ending → World → Prop := RowPost 3 1 (ints L) ok w
theorem idxs_more' {p : Nat → Bool} {k : Nat} (h : p k = true) : idxs p (k + 1) = idxs p k ++ [(k : Int)] := by
  simp [idxs, List.range_succ, List.filter_append, h]
/-- What the round keeps: the table's box, the list so far. -/
structure NSt (w : World) (u0 u1 : Value) (O : Option Addr) (p pc : Nat) (L : List Int) (W : World) : Prop where
  box : Box2 w u0 u1 W
  out : W.ownsRow (w.heap.size + 1) 3 1 (.slice O p pc) p (ints L)
theorem NSt.step {w W W' : World} {u0 u1 : Value} {O : Option Addr} {p pc : Nat} {L : List Int} (h : NSt w u0 u1 O p pc L W) (he : Ext W W') : NSt w u0 u1 O p pc L W' := ⟨h.box.step he, he.own h.out⟩
theorem NSt.row {w W W' : World} {u0 u1 : Value} {O : Option Addr} {p pc : Nat} {L : List Int} (h : NSt w u0 u1 O p pc L W) {g b T s q qc : Nat} {cs : List Value} (hg : W.grownBy W' (some g)) (hlt : w.heap.size < g) (hT : (3 : Nat) ≠ T) (ho : W.ownsRow b T s (.slice (some ⟨g, 0, none⟩) q qc) q cs) : NSt w u0 u1 O p pc L W' :=
  ⟨⟨h.box.ext.row hg (by omega), grown_cell (A := some ⟨g, 0, none⟩) (m := 0) (c := 0) hg (Off.ne (by omega)) h.box.c0, grown_cell (A := some ⟨g, 0, none⟩) (m := 0) (c := 0) hg (Off.ne (by omega)) h.box.c1⟩, h.out.kept hg (own_types h.out ho hT)⟩
theorem intBan : (3 : Nat) ≠ 61 := by decide
theorem intTab : (3 : Nat) ≠ 27 := by decide
theorem banTab : (61 : Nat) ≠ 27 := by decide
theorem tabBan : (27 : Nat) ≠ 61 := by decide
theorem step_store {P : Program} {ops : Array Oper} {o : Oper} {a : Act} {w : World} {K : Act → World → Prop} {Q : Exit → Act → World → Prop} {E : Prop}
    (hg : o.guard = none) (ty : TypeId) (x y : Operand) (hop : o.op = .store ty x y) (b o' : Nat) (vs : List Value) (hx : a.eval x = .pointer (some ⟨b, o', none⟩)) (hy : a.eval y = .agg vs.toArray)
    (ht : w.there b o' vs.length) (hi : (P.info? ty).map (·.size) = some vs.length) (h1 : vs.all (·.oneCell') = true)
    (hd : o.dst = none) (hK : K a (w.setCells b o' vs)) :
    if Region.wanted o (yielded ops a.tmps) = true then Oper.wp P o a w K Q else E := by
  have hw : Region.wanted o (yielded ops a.tmps) = true := by simp [Region.wanted, hg]
  rw [if_pos hw]
  exact wp_store_mid ty x y hop b o' vs.toArray hx hy (by simpa using ht) (by simpa using hi) (by simpa using h1) (by rw [hd]; simpa [Act.put] using hK)
theorem sizeTab : (Tryd.prog.info? 27).map (·.size) = some 2 := by kernel_rfl
theorem tab_stored {W : World} {b x : Nat} {cs : List Value} (h : W.ownsRow b 27 2 (.slice (some ⟨x, 0, none⟩) 1 1) 1 cs) (u v : Value) : (W.setCells x 0 [u, v]).cell? ⟨x, 0, none⟩ = some u ∧ (W.setCells x 0 [u, v]).cell? ⟨x, 1, none⟩ = some v ∧ W.grownBy (W.setCells x 0 [u, v]) (some x) := by
  obtain ⟨h1, h2⟩ := own_setCells [u, v] 0 W _ h
  have hl : cs.length = 2 := h.1
  obtain ⟨a, b', rfl⟩ : ∃ a b', cs = [a, b'] := by
    match cs, hl with
    | [a, b'], _ => exact ⟨a, b', rfl⟩
  exact ⟨own_at h1 rfl, own_at h1 rfl, h2⟩
end Go.Proofs.YtekggbmpogmlcaaDoor
