/- DeadValues: the program's and the reference's entries. -/
import Derived.Test.YtekggbmpogmlcaaDoorKWith
import Derived.Test.YtekggbmpogmlcaaDoorFirstK
import Derived.Test.YtekggbmpogmlcaaDoorArr2
import Derived.Test.YtekggbmpogmlcaaDoorApp
namespace Go.Proofs.YtekggbmpogmlcaaDoor
open Go.RowKit
set_option linter.unusedVariables false
set_option linter.unusedSimpArgs false
attribute [local go_sem] ExtOf.cell

/-- No compatible kind has value v of trait a. -/
def deadP (ss : List Int) (bs : List Ban) (a v : Nat) : Bool := !((frees ss bs).any (withQ a v))
def deadRow (p : Nat → Nat → Bool) (a : Nat) (V : Nat) : List Int := (List.range V).flatMap fun v => if p a v then [(a : Int), (v : Int)] else []
def deadTo (p : Nat → Nat → Bool) (ss : List Int) (k : Nat) : List Int := (List.range k).flatMap fun a => deadRow p a (sizeAt ss a).toNat
theorem deadRow_zero (p : Nat → Nat → Bool) (a : Nat) : deadRow p a 0 = [] := rfl
theorem deadRow_yes {p : Nat → Nat → Bool} {a v : Nat} (h : p a v = true) : deadRow p a (v + 1) = deadRow p a v ++ [(a : Int), (v : Int)] := by
  simp [deadRow, List.range_succ, List.flatMap_append, h]
theorem deadRow_no {p : Nat → Nat → Bool} {a v : Nat} (h : p a v = false) : deadRow p a (v + 1) = deadRow p a v := by
  simp [deadRow, List.range_succ, List.flatMap_append, h]
theorem deadTo_succ (p : Nat → Nat → Bool) (ss : List Int) (k : Nat) : deadTo p ss (k + 1) = deadTo p ss k ++ deadRow p k (sizeAt ss k).toNat := by
  simp [deadTo, List.range_succ, List.flatMap_append]
theorem deadRow_len (p : Nat → Nat → Bool) (a : Nat) : ∀ V, (deadRow p a V).length ≤ 2 * V
  | 0 => by simp [deadRow]
  | V + 1 => by
    have := deadRow_len p a V
    cases h : p a V
    · rw [deadRow_no h]; omega
    · rw [deadRow_yes h, List.length_append]; simp; omega
theorem deadTo_len {ss : List Int} (p : Nat → Nat → Bool) (hs : ∀ s ∈ ss, 1 ≤ s ∧ s ≤ 5) : ∀ k, k ≤ ss.length → (deadTo p ss k).length ≤ 10 * k
  | 0, _ => by simp [deadTo]
  | k + 1, h => by
    have h1 := deadTo_len p hs k (by omega)
    have h2 := deadRow_len p k (sizeAt ss k).toNat
    have hx : ss[k]? = some ss[k] := List.getElem?_eq_getElem (by omega)
    have h3 := hs _ (List.mem_of_getElem? hx)
    rw [sizeAt_get hx] at h2
    rw [deadTo_succ, List.length_append, sizeAt_get hx]
    omega
def deadR (ss : List Int) (bs : List Ban) : List Int := if TabOk ss bs then deadTo (deadP ss bs) ss ss.length else []
theorem deadR_yes {ss : List Int} {bs : List Ban} (h : TabOk ss bs = true) : deadR ss bs = deadTo (deadP ss bs) ss ss.length := by unfold deadR; rw [if_pos h]
theorem deadR_no {ss : List Int} {bs : List Ban} (h : TabOk ss bs = false) : deadR ss bs = [] := by unfold deadR; rw [h]; rfl
theorem deadR_len (ss : List Int) (bs : List Ban) : (deadR ss bs).length ≤ 10000 := by
  cases h : TabOk ss bs
  · rw [deadR_no h]; exact Nat.zero_le _
  · obtain ⟨⟨_, t2⟩, _, t4, _⟩ := TabOk_all h
    rw [deadR_yes h]; have := deadTo_len (deadP ss bs) t4 ss.length (Nat.le_refl _); omega
theorem deadP_cnt (ss : List Int) (bs : List Ban) (a v : Nat) : deadP ss bs a v = decide (cnt (withP ss bs a v) (allN ss) = 0) := by
  unfold deadP
  rw [frees_any, Bool.not_not]
  rfl
/-- The box of the table, kept. -/
structure Box2 (w : World) (u0 u1 : Value) (wr : World) : Prop where
  ext : Ext w wr
  c0 : wr.cell? ⟨w.heap.size, 0, none⟩ = some u0
  c1 : wr.cell? ⟨w.heap.size, 1, none⟩ = some u1
theorem Box2.step {w wr w' : World} {u0 u1 : Value} (h : Box2 w u0 u1 wr) (he : Ext wr w') : Box2 w u0 u1 w' := ⟨h.ext.trans he, he.cell1 h.c0, he.cell1 h.c1⟩
theorem Box2.grow {w wr w' : World} {u0 u1 : Value} {O : Option Addr} {q oc T size : Nat} {cs : List Value} (h : Box2 w u0 u1 wr) (ho : wr.ownsRow (w.heap.size + 1) T size (.slice O q oc) q cs) (hg : wr.grownBy w' (Value.ownBlock (.slice O q oc))) : Box2 w u0 u1 w' := by
  have hoff : Off O w.heap.size := by
    intro b x s e
    subst e
    have := (ho.lt b rfl).1
    omega
  exact ⟨h.ext.grown hg (fun k hk => by have := (ho.lt k hk).1; omega), grown_cell hg hoff h.c0, grown_cell hg hoff h.c1⟩
end Go.Proofs.YtekggbmpogmlcaaDoor
