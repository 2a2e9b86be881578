/- A slice of numbers as an argument. -/
import Derived.Test.YtphalkeokpnpfaaDoorOpen
import Derived.Test.YtphalkeokpnpfaaDoorIntS
import Derived.Test.YtphalkeokpnpfaaDoorProg
namespace Go.Proofs.YtphalkeokpnpfaaDoor
open Go.ChangeShapes Go.WideShapes Go.RowKit Go.Deep
set_option linter.unusedVariables false
set_option linter.unusedSimpArgs false
theorem ints_flat (l : List Int) : ints l = l.flatMap (fun v => [Value.int .i64 v]) := by
  induction l with
  | nil => rfl
  | cons a l ih => simp only [ints, List.map_cons, List.flatMap_cons] at *; rw [ih]; rfl
section
variable {H : Type} {enc : TypeId × Value → H} {P : Program} {w : World} {base : Nat} {spare : Nat → Bool} {held : Bool}
theorem trod_ints {t e : TypeId} {fuel : Nat} {u : Value} {y : DataW H × List MemPlace} (ht : P.underlying t = some (.slice e)) (he : P.underlying e = some (.int .i64)) (hC : P.cellsOf e = 1)
    (hf' : DataW.trod enc P w base spare held fuel t [u] = some y) :
    ∃ (A : Option Addr) (n c : Nat) (xs : List Int), u = .slice A n c ∧ n ≤ c ∧ c ≤ maxLen ∧ xs.length = n ∧ (∀ x ∈ xs, (Lit.int .i64 x).wf = true) ∧ Rd w A n 1 (ints xs) := by
  rcases open_slice ht hf' with ⟨hcs, _⟩ | ⟨a, n, c, m, n', D, Pl, hcs, hb, hl, hm, hmm, hx, hi⟩
  · simp at hcs
    exact ⟨none, 0, 0, [], hcs, Nat.le_refl _, Nat.zero_le _, rfl, by simp, Rd.nil _ _ _⟩
  · simp at hcs
    obtain ⟨xs, h1, h2, h3⟩ := rd_of (w := w) (a := a) (n := n) (f := fun v => [Value.int .i64 v]) (G := fun x => (Lit.int .i64 x).wf = true) (by decide : 0 < 1) (fun _ => rfl) (fun i hi' => by
      obtain ⟨cs', hc, ht'⟩ := hi i (by rw [hmm]; split <;> omega)
      rw [hC] at hc
      obtain ⟨_, hcl, hat⟩ := World.cells?_some hc
      obtain ⟨u, rfl⟩ : ∃ u, cs' = [u] := by
        match cs', hcl with
        | [u], _ => exact ⟨u, rfl⟩
      obtain ⟨x, rfl, hw⟩ := trod_i64 he ht'
      refine ⟨x, hw, fun j u hu => ?_⟩
      have hj : j < 1 := (List.getElem?_eq_some_iff.1 hu).1
      have := hat j hj
      rw [hu] at this
      rw [← Go.Deep.add_add]
      exact this)
    exact ⟨some a, n, c, xs, hcs, hl, hm, h1, h2, by rw [ints_flat]; exact h3⟩
theorem open_intsP {r : Reach} {b0 : Nat} {t e : TypeId} {v : Value} {d : DataW H} {p : List MemPlace} (ht : P.underlying t = some (.slice e)) (he : P.underlying e = some (.int .i64)) (hC : P.cellsOf e = 1)
    (hv : Value.okWide P w r b0 t v) (h : DataW.Trod enc P w base spare held t v d p) :
    ∃ (A : Option Addr) (n c : Nat) (xs : List Int), v = .slice A n c ∧ n ≤ c ∧ c ≤ maxLen ∧ xs.length = n ∧ (∀ x ∈ xs, (Lit.int .i64 x).wf = true) ∧ Rd w A n 1 (ints xs) := by
  obtain ⟨A, n, c, rfl⟩ := okWide_slice ht hv
  obtain ⟨fuel, hf'⟩ := h
  exact trod_ints ht he hC hf'
set_option maxRecDepth 100000 in
theorem open_ints {r : Reach} {b0 : Nat} {v : Value} {d : DataW H} {p : List MemPlace} (hv : Value.okWide Tryd.prog w r b0 22 v) (h : DataW.Trod enc Tryd.prog w base spare held 22 v d p) :
    ∃ (A : Option Addr) (n c : Nat) (xs : List Int), v = .slice A n c ∧ n ≤ c ∧ c ≤ maxLen ∧ xs.length = n ∧ (∀ x ∈ xs, (Lit.int .i64 x).wf = true) ∧ Rd w A n 1 (ints xs) :=
  open_intsP Tryd.underlying22 Tryd.underlying3 (by kernel_rfl) hv h
end
set_option maxHeartbeats 400000 in
theorem toIntS_any (A : Option Addr) (n c : Nat) (l : List Int) (w : World) (hm : n ≤ 1048576) (hr : Rd w A n 1 (ints l)) :
    Calls Tryd.prog 8 #[.slice A n c] w (NewPost 3 1 n (ints l) w) := by
  obtain ⟨i0, hi, hz0, hz1, hz2⟩ := info_parts (show (Tryd.prog.info? 3).map (fun i => (i.zero, i.size, i.bytes)) = some (some (.int .i64 0), 1, 8) by kernel_rfl)
  have HL := Lib.hid (show l.length = n by have := hr.1; rw [ints_length] at this; omega)
  have HF := Lib.hid (show ∀ v : Int, [Value.int .i64 v].length = 1 from fun _ => rfl)
  have HS := Lib.hid ints_flat
  go_enter Tryd.func8, Tryd.ntmps8
  go_wp2_with (at_make; refine wpList_make_full _ rfl _ _ _ rfl w.heap.size 3 i0 _ 1 Tryd.underlying22 hi hz0 hz1 _ _ _ _ n rfl rfl rfl rfl (by rw [hz2]; omega) (by unfold maxLen; omega) (Nat.le_refl _) ?_; intro w1 hown hg)
  have hz : (madeCells (Value.cells (.int .i64 0)) (n * 1)).toList.length = n * 1 := made_len _ _
  generalize (madeCells (Value.cells (.int .i64 0)) (n * 1)).toList = Z at hown hz
  have HZ := Lib.hid hz
  have he0 : Ext w w1 := (Ext.refl w).grown hg (fun k hk => by cases hk)
  clear hz hz0 hz1 hz2 hi
  go_loopw [4] (fun i wr => ∃ k : Nat, k ≤ n ∧ i = .int .i64 k ∧ wr.ownsRow w.heap.size 3 1 (.slice (some ⟨w.heap.size, 0, none⟩) n n) n (fillTo (fun v => [Value.int .i64 v]) l Z 1 k) ∧ Ext w wr) (fun i _ => n - (intOf i).toNat)
  case atStart => exact ⟨0, Nat.zero_le _, rfl, by rw [fill_zero]; exact hown, he0⟩
  case round =>
    obtain ⟨k, hk, rfl, ho, he⟩ := hrel
    clear hown he0 hg
    by_cases hlt : k < n
    · obtain ⟨b, off, x, rfl, hb, hx, g0⟩ := (hr.ext he).int hlt
      have hlb : w.heap.size < wr.heap.size := (ho.lt _ rfl).2
      have hf1 := ho.frozenAt k
      obtain ⟨u1, hu1⟩ := own_cell (j := k) ho (by omega)
      have HO := Lib.hid ho
      clear ho hr
      go_wp2
      go_roundw
      case rel =>
        have ho2 := (HO.out.stored k (.int .i64 x)).1
        have hfs := fill_set (size := 1) (zs := Z) HF.out HL.out HZ.out hx.out
        simp only [setL, Nat.mul_one] at hfs
        rw [hfs] at ho2
        exact ⟨k + 1, by omega, by go_num, ho2, he.set (Nat.le_refl _) _⟩
      case measure => simp [intOf]; omega
    · obtain rfl : k = n := by omega
      rw [fill_end HL.out HZ.out, ← HS.out] at ho
      go_wp2
      go_ret
      exact ⟨rfl, ho, he⟩
end Go.Proofs.YtphalkeokpnpfaaDoor
