/- DeadValues: the program's and the reference's entries. -/
import Derived.Test.YtekggbmpogmlcaaKWith
import Derived.Test.YtekggbmpogmlcaaFirstK
import Derived.Test.YtekggbmpogmlcaaArr2
import Derived.Test.YtekggbmpogmlcaaApp
namespace Go.Proofs.Ytekggbmpogmlcaa
open Go.RowKit
set_option linter.unusedVariables false
set_option linter.unusedSimpArgs false
attribute [local go_sem] ExtOf.cell

/-- No compatible kind has value v of trait a. -/
def deadP (ss : List Int) (bs : List Ban) (a v : Nat) : Bool := !((frees ss bs).any (withQ a v))
def deadRow (p : Nat → Nat → Bool) (a : Nat) (V : Nat) : List Int := (List.range V).flatMap fun v => if p a v then [(a : Int), (v : Int)] else []
def deadTo (p : Nat → Nat → Bool) (ss : List Int) (k : Nat) : List Int := (List.range k).flatMap fun a => deadRow p a (sizeAt ss a).toNat
theorem deadRow_zero (p : Nat → Nat → Bool) (a : Nat) : deadRow p a 0 = [] := rfl
theorem deadRow_yes {p : Nat → Nat → Bool} {a v : Nat} (h : p a v = true) : deadRow p a (v + 1) = deadRow p a v ++ [(a : Int), (v : Int)] := by
  simp [deadRow, List.range_succ, List.flatMap_append, h]
theorem deadRow_no {p : Nat → Nat → Bool} {a v : Nat} (h : p a v = false) : deadRow p a (v + 1) = deadRow p a v := by
  simp [deadRow, List.range_succ, List.flatMap_append, h]
theorem deadTo_succ (p : Nat → Nat → Bool) (ss : List Int) (k : Nat) : deadTo p ss (k + 1) = deadTo p ss k ++ deadRow p k (sizeAt ss k).toNat := by
  simp [deadTo, List.range_succ, List.flatMap_append]
theorem deadRow_len (p : Nat → Nat → Bool) (a : Nat) : ∀ V, (deadRow p a V).length ≤ 2 * V
  | 0 => by simp [deadRow]
  | V + 1 => by
    have := deadRow_len p a V
    cases h : p a V
    · rw [deadRow_no h]; omega
    · rw [deadRow_yes h, List.length_append]; simp; omega
theorem deadTo_len {ss : List Int} (p : Nat → Nat → Bool) (hs : ∀ s ∈ ss, 1 ≤ s ∧ s ≤ 5) : ∀ k, k ≤ ss.length → (deadTo p ss k).length ≤ 10 * k
  | 0, _ => by simp [deadTo]
  | k + 1, h => by
    have h1 := deadTo_len p hs k (by omega)
    have h2 := deadRow_len p k (sizeAt ss k).toNat
    have hx : ss[k]? = some ss[k] := List.getElem?_eq_getElem (by omega)
    have h3 := hs _ (List.mem_of_getElem? hx)
    rw [sizeAt_get hx] at h2
    rw [deadTo_succ, List.length_append, sizeAt_get hx]
    omega
def deadR (ss : List Int) (bs : List Ban) : List Int := if TabOk ss bs then deadTo (deadP ss bs) ss ss.length else []
theorem deadR_yes {ss : List Int} {bs : List Ban} (h : TabOk ss bs = true) : deadR ss bs = deadTo (deadP ss bs) ss ss.length := by unfold deadR; rw [if_pos h]
theorem deadR_no {ss : List Int} {bs : List Ban} (h : TabOk ss bs = false) : deadR ss bs = [] := by unfold deadR; rw [h]; rfl
theorem deadR_len (ss : List Int) (bs : List Ban) : (deadR ss bs).length ≤ 10000 := by
  cases h : TabOk ss bs
  · rw [deadR_no h]; exact Nat.zero_le _
  · obtain ⟨⟨_, t2⟩, _, t4, _⟩ := TabOk_all h
    rw [deadR_yes h]; have := deadTo_len (deadP ss bs) t4 ss.length (Nat.le_refl _); omega
theorem deadP_cnt (ss : List Int) (bs : List Ban) (a v : Nat) : deadP ss bs a v = decide (cnt (withP ss bs a v) (allN ss) = 0) := by
  unfold deadP
  rw [frees_any, Bool.not_not]
  rfl
/-- The box of the table, kept. -/
structure Box2 (w : World) (u0 u1 : Value) (wr : World) : Prop where
  ext : Ext w wr
  c0 : wr.cell? ⟨w.heap.size, 0, none⟩ = some u0
  c1 : wr.cell? ⟨w.heap.size, 1, none⟩ = some u1
theorem Box2.step {w wr w' : World} {u0 u1 : Value} (h : Box2 w u0 u1 wr) (he : Ext wr w') : Box2 w u0 u1 w' := ⟨h.ext.trans he, he.cell1 h.c0, he.cell1 h.c1⟩
theorem Box2.grow {w wr w' : World} {u0 u1 : Value} {O : Option Addr} {q oc T size : Nat} {cs : List Value} (h : Box2 w u0 u1 wr) (ho : wr.ownsRow (w.heap.size + 1) T size (.slice O q oc) q cs) (hg : wr.grownBy w' (Value.ownBlock (.slice O q oc))) : Box2 w u0 u1 w' := by
  have hoff : Off O w.heap.size := by
    intro b x s e
    subst e
    have := (ho.lt b rfl).1
    omega
  exact ⟨h.ext.grown hg (fun k hk => by have := (ho.lt k hk).1; omega), grown_cell hg hoff h.c0, grown_cell hg hoff h.c1⟩
theorem app_pr {ops : Array Oper} {rest : List Oper} {o : Oper} {a : Act} {w : World} {Q : Exit → Act → World → Prop} (hgd : o.guard = none) (s x : Operand)
    (ho : o.op = .call { callee := .builtin .append, args := #[s, x], argTypes := #[32, 32] })
    (base m oc g : Nat) (A : Option Addr) (l : List Int) (u v : Int) (hs : a.eval s = .slice A m oc) (hx : a.eval x = .slice (some ⟨g, 0, none⟩) 1 1)
    (hown : w.ownsRow base 58 2 (.slice A m oc) m (ints l)) (hc0 : w.cell? ⟨g, 0, none⟩ = some (.int .i64 u)) (hc1 : w.cell? ⟨g, 1, none⟩ = some (.int .i64 v)) (hm : m ≤ 100000000) (hb : base ≤ w.heap.size)
    (h : ∀ A' c' w', w'.ownsRow base 58 2 (.slice A' (m + 1) c') (m + 1) (ints (l ++ [u, v])) → w.grownBy w' (Value.ownBlock (.slice A m oc)) → wpList Try.prog ops Q rest (a.put o.dst (.slice A' (m + 1) c')) w') : wpList Try.prog ops Q (o :: rest) a w := by
  obtain ⟨i0, hi, hz0, hz1, hz2⟩ := info_parts (show (Try.prog.info? 58).map (fun i => (i.zero, i.size, i.bytes)) = some (some (.agg #[.int .i64 0, .int .i64 0]), 2, 16) by kernel_rfl)
  refine wpList_append_own w hgd s x 32 ho base 58 i0 (.agg #[.int .i64 0, .int .i64 0]) 2 16 Try.underlying32 hi hz0 hz1 hz2 rfl (by decide) (.slice A m oc) m (ints l) hs hown ⟨g, 0, none⟩ 1 1 [.int .i64 u, .int .i64 v] hx rfl ?_ ?_ ?_ ?_ hb ?_
  · intro j y hj
    have hl := (List.getElem?_eq_some_iff.1 hj).1
    simp at hl
    rw [Addr.add_mid, Nat.zero_add]
    obtain rfl | rfl : j = 0 ∨ j = 1 := by omega
    · simp at hj; subst hj; exact hc0
    · simp at hj; subst hj; exact hc1
  · intro y hy; simp at hy; rcases hy with rfl | rfl <;> rfl
  · unfold maxLen; omega
  · omega
  · intro v' w' h1 h2 h3
    obtain ⟨A', c', rfl⟩ := own_slice h1
    refine h A' c' w' ?_ h2
    rw [show ints (l ++ [u, v]) = ints l ++ [.int .i64 u, .int .i64 v] by simp [ints]]; exact h1
set_option maxRecDepth 100000 in
set_option maxHeartbeats 1000000 in
theorem dead1_any (b1 b2 t : Nat) (v : Int) (K : Option Addr) (n e : Nat) (ks : List Int) (w : World) (c0 : w.cell? ⟨b1, 0, none⟩ = some (.int .i64 t)) (c1 : w.cell? ⟨b2, 0, none⟩ = some (.int .i64 v)) (ht : t < n) (hn : n ≤ 1048576) (hk : Rd w K n 1 (ints ks)) :
    Calls Try.prog 28 #[.slice K n e, .pointer (some ⟨b1, 0, none⟩), .pointer (some ⟨b2, 0, none⟩)] w fun e w' => e = .returned (.bool (withQ t v ks)) ∧ Ext w w' := by
  obtain ⟨b, off, x, rfl, hb, hx, g0⟩ := hk.int ht
  have hw := Lib.hid (show withQ t v ks = (x == v) by
    have d1 : decide ((t : Int) < 0) = false := by simp
    unfold withQ; rw [d1, sizeAt_get hx.out]; rfl)
  have z1 : b1 < w.heap.size := World.block_lt_of_cell? w _ c0
  have z2 : b2 < w.heap.size := World.block_lt_of_cell? w _ c1
  clear hk
  go_enter Try.func28, Try.ntmps28
  go_wp2
  (refine wp_region_ext_lit (by kernel_rfl) (by kernel_rfl) ?_; (repeat (go_big_quiet_step ((fail)))); refine wpQuiet_nil ?_; rintro wq ⟨⟨_, heq⟩, rfl⟩; (try dsimp only))
  go_wp2
  go_ret
  exact ⟨ret_bool (by rw [hw.out]; try simp), heq⟩
set_option maxRecDepth 100000 in
set_option maxHeartbeats 1000000 in
theorem IndexDead_any (b1 b2 t : Nat) (v : Int) (O : Option Addr) (q oc base n : Nat) (zs : List Kd) (w : World) (c0 : w.cell? ⟨b1, 0, none⟩ = some (.int .i64 t)) (c1 : w.cell? ⟨b2, 0, none⟩ = some (.int .i64 v)) (ht : t < n) (hn : n ≤ 1048576) (hz : Lists w base (.slice O q oc) zs) (hq : zs.length = q) (hl : ∀ z ∈ zs, z.2.length = n) :
    Calls Try.prog 48 #[.slice O q oc, .func (.func 28) #[] #[.pointer (some ⟨b1, 0, none⟩), .pointer (some ⟨b2, 0, none⟩)]] w fun e w' => e = .returned (.int .i64 (firstAt (fun z : Kd => withQ t v z.2) zs)) ∧ Ext w w' := by
  have C := Lib.hid (fun (K : Option Addr) (e : Nat) (ks : List Int) (w' : World) (he : Ext w w') (hk : Rd w' K n 1 (ints ks)) => dead1_any b1 b2 t v K n e ks w' (he.cell1 c0) (he.cell1 c1) ht hn hk)
  have HL := Lib.hid hl
  have hcap := own_cap hz.row
  rw [hq] at hcap
  unfold maxLen at hcap
  clear c0 c1 hl
  go_enter Try.func48, Try.ntmps48
  go_wp2
  go_loopw [8] (fun i wr => ∃ k : Nat, k ≤ q ∧ i = .int .i64 k ∧ noneTo (fun z : Kd => withQ t v z.2) zs k ∧ Ext w wr) (fun i _ => q - (intOf i).toNat)
  case atStart => exact ⟨0, Nat.zero_le _, rfl, noneTo_zero _ _, Ext.refl _⟩
  case round =>
    obtain ⟨k, hk, rfl, hno, he⟩ := hrel
    have HN := Lib.hid hno
    clear hno
    by_cases hlt : k < q
    · obtain ⟨o, K, e, ks, rfl, ho, hx, g0, hown⟩ := (hz.ext he).get hlt hq
      have hkn := HL.out _ (List.mem_of_getElem? hx.out)
      dsimp only at hkn
      rw [hkn] at g0 hown
      have C1 := Lib.hid (C.out K e ks wr he (Rd.own hown))
      have HB := Lib.hid (show (fun z : Kd => withQ t v z.2) (.slice K ks.length e, ks) = withQ t v ks from rfl)
      clear hown
      cases hb : withQ t v ks
      · have hs := Lib.hid (noneTo_succ HN.out hx.out (HB.out.trans hb))
        go_wp2_with (go_at_call 28; refine C1.out.mono ?_; rintro e wa ⟨rfl, he1⟩; rw [hb])
        go_roundw
        case rel => exact ⟨k + 1, by omega, by go_num, hs.out, he.trans he1⟩
        case measure => simp [intOf]; omega
      · have hs := Lib.hid (firstAt_hit HN.out hx.out (HB.out.trans hb))
        go_wp2_with (go_at_call 28; refine C1.out.mono ?_; rintro e wa ⟨rfl, he1⟩; rw [hb])
        go_ret
        exact ⟨ret_int hs.out.symm, he.trans he1⟩
    · obtain rfl : k = q := by omega
      go_wp2
      go_ret
      exact ⟨ret_int (firstAt_miss (by omega) HN.out).symm, he⟩
set_option maxRecDepth 100000 in
set_option maxHeartbeats 1000000 in
theorem ContainsDead_any (b1 b2 t : Nat) (v : Int) (O : Option Addr) (q oc base n : Nat) (zs : List Kd) (ls : List (List Int)) (w : World) (c0 : w.cell? ⟨b1, 0, none⟩ = some (.int .i64 t)) (c1 : w.cell? ⟨b2, 0, none⟩ = some (.int .i64 v)) (ht : t < n) (hn : n ≤ 1048576) (hz : Lists w base (.slice O q oc) zs) (hq : zs.length = q) (hl : ∀ z ∈ zs, z.2.length = n) (hls : zs.map Prod.snd = ls) :
    Calls Try.prog 27 #[.slice O q oc, .func (.func 28) #[] #[.pointer (some ⟨b1, 0, none⟩), .pointer (some ⟨b2, 0, none⟩)]] w fun e w' => e = .returned (.bool (ls.any (withQ t v))) ∧ Ext w w' := by
  have C := Lib.hid (IndexDead_any b1 b2 t v O q oc base n zs w c0 c1 ht hn hz hq hl)
  have hlo := firstAt_lo (fun z : Kd => withQ t v z.2) zs
  have ha := Lib.hid (show decide (0 ≤ firstAt (fun z : Kd => withQ t v z.2) zs) = ls.any (withQ t v) by rw [firstAt_any, ← hls, List.any_map]; rfl)
  clear c0 c1 hz hl hls
  generalize firstAt (fun z : Kd => withQ t v z.2) zs = f at *
  go_enter Try.func27, Try.ntmps27
  go_wp2_with (go_at_call 48; refine C.out.mono ?_; rintro e wa ⟨rfl, he1⟩)
  go_ret
  exact ⟨ret_bool ha.out, he1⟩
end Go.Proofs.Ytekggbmpogmlcaa
