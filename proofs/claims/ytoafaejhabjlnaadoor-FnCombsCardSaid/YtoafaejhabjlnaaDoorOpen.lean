/- Arguments opened: what a value that reads as data looks like. -/
import Derived.Test.YtoafaejhabjlnaaDoorMem
import Derived.ProofKit
import Derived.OpenShut
import Derived.Deep.Slices
import Derived.Deep.Fields
import Derived.ChangeSame
namespace Go.Proofs.YtoafaejhabjlnaaDoor
open Go.ChangeShapes Go.WideShapes Go.RowKit Go.Deep
set_option linter.unusedVariables false
set_option linter.unusedSimpArgs false
section
variable {H : Type} {enc : TypeId × Value → H} {P : Program} {w : World} {base : Nat} {spare : Nat → Bool} {held : Bool}

theorem trod_i64 {t : TypeId} {n : Nat} {u : Value} {y : DataW H × List MemPlace} (ht : P.underlying t = some (.int .i64)) (h : DataW.trod enc P w base spare held n t [u] = some y) :
    ∃ a, u = .int .i64 a ∧ (Lit.int .i64 a).wf = true := by
  obtain ⟨a, e, _, hw⟩ := DataW.trod_int ht h
  simp at e
  exact ⟨a, e, hw⟩
theorem trod_u8 {t : TypeId} {n : Nat} {u : Value} {y : DataW H × List MemPlace} (ht : P.underlying t = some (.int .u8)) (h : DataW.trod enc P w base spare held n t [u] = some y) :
    ∃ a, u = .int .u8 a ∧ (Lit.int .u8 a).wf = true := by
  obtain ⟨a, e, _, hw⟩ := DataW.trod_int ht h
  simp at e
  exact ⟨a, e, hw⟩
theorem trod_str {t : TypeId} {n : Nat} {u : Value} {y : DataW H × List MemPlace} (ht : P.underlying t = some .string) (h : DataW.trod enc P w base spare held n t [u] = some y) :
    ∃ s, u = .string s ∧ s.size ≤ maxLen := by
  obtain ⟨a, e, _, hw⟩ := DataW.trod_string ht h
  simp at e
  exact ⟨a, e, hw⟩

/-- A struct of one-cell fields, by value. -/
theorem open_fields {r : Reach} {b0 : Nat} {t : TypeId} {fs : Array Field} {v : Value} {d : DataW H} {p : List MemPlace} (hs : P.underlying t = some (.struct fs)) (hone : oneCellFields P fs = true) (hC : P.cellsOf t = fs.size)
    (hv : Value.okWide P w r b0 t v) (h : DataW.Trod enc P w base spare held t v d p) :
    ∃ cs : List Value, v = .agg cs.toArray ∧ cs.length = fs.size ∧ ∀ (j : Nat) (f : Field), fs[j]? = some f → ∃ u n y, cs[j]? = some u ∧ DataW.trod enc P w base spare held n f.type [u] = some y := by
  obtain ⟨cs, rfl, hsz⟩ := okWide_struct hs hv
  obtain ⟨fuel, hf⟩ := h
  obtain ⟨xs, n, _, hx, _, hlen, hg⟩ := DataW.trod_struct hs hf
  refine ⟨cs.toList, rfl, by rw [Array.length_toList]; omega, fun j f hj => ?_⟩
  have hl : j < fs.size := (Array.getElem?_eq_some_iff.1 hj).1
  obtain ⟨o0, k0⟩ := hone_of hone j f hj
  have h1 := hg j f hj
  rw [o0, k0] at h1
  have hjc : j < cs.toList.length := by rw [Array.length_toList]; omega
  have hone' : ((Value.cells (.agg cs)).toList.drop j).take 1 = [cs.toList[j]] := by
    rw [show (Value.cells (.agg cs)).toList = cs.toList from rfl, List.drop_eq_getElem_cons hjc]
    rfl
  rw [hone'] at h1
  have hxs : xs[j]? = some (xs[j]'(by omega)) := List.getElem?_eq_getElem (by omega)
  exact ⟨_, _, _, List.getElem?_eq_getElem hjc, h1.trans hxs⟩

/-- Elements one by one make a list. -/
theorem list_of {α : Type} {Q : Nat → α → Prop} : ∀ n, (∀ i, i < n → ∃ x, Q i x) → ∃ xs : List α, xs.length = n ∧ ∀ i x, xs[i]? = some x → Q i x
  | 0, _ => ⟨[], rfl, fun i x h => by simp at h⟩
  | n + 1, h => by
    obtain ⟨xs, hl, hq⟩ := list_of n (fun i hi => h i (by omega))
    obtain ⟨x, hx⟩ := h n (by omega)
    refine ⟨xs ++ [x], by simp [hl], fun i y hy => ?_⟩
    rcases Nat.lt_or_ge i n with hi | hi
    · rw [List.getElem?_append_left (by omega)] at hy
      exact hq i y hy
    · have : i = n := by
        have := (List.getElem?_eq_some_iff.1 hy).1
        simp at this; omega
      subst this
      rw [List.getElem?_append_right (by omega), hl] at hy
      simp at hy; subst hy; exact hx

theorem flat_split {α β : Type} (f : α → List β) (size : Nat) (hf : ∀ x, (f x).length = size) (xs : List α) (m : Nat) (u : β) (h : (xs.flatMap f)[m]? = some u) :
    ∃ k j x, m = k * size + j ∧ j < size ∧ xs[k]? = some x ∧ (f x)[j]? = some u := by
  induction xs generalizing m with
  | nil => simp at h
  | cons y ys ih =>
    rw [List.flatMap_cons] at h
    rcases Nat.lt_or_ge m size with hm | hm
    · rw [List.getElem?_append_left (by rw [hf]; exact hm)] at h
      exact ⟨0, m, y, by omega, hm, rfl, h⟩
    · rw [List.getElem?_append_right (by rw [hf]; exact hm), hf] at h
      obtain ⟨k, j, x, e, hj, hx, hu⟩ := ih _ h
      exact ⟨k + 1, j, x, by rw [Nat.add_mul]; omega, hj, hx, hu⟩

theorem add_plain' (b o m : Nat) : (⟨b, o, none⟩ : Addr).add m = ⟨b, o + m, none⟩ := by
  unfold Addr.add; split <;> simp_all

/-- Elements that lie one behind the other read as their list. -/
theorem rd_of {α : Type} {a : Addr} {n size : Nat} {f : α → List Value} {G : α → Prop} (hsz : 0 < size) (hf : ∀ x, (f x).length = size)
    (h : ∀ i, i < n → ∃ x, G x ∧ ∀ j u, (f x)[j]? = some u → w.cell? (a.add (i * size + j)) = some u) :
    ∃ xs : List α, xs.length = n ∧ (∀ x ∈ xs, G x) ∧ Rd w (some a) n size (xs.flatMap f) := by
  obtain ⟨xs, hl, hq⟩ := list_of (Q := fun i x => G x ∧ ∀ j u, (f x)[j]? = some u → w.cell? (a.add (i * size + j)) = some u) n h
  refine ⟨xs, hl, fun x hx => ?_, by rw [flat_length f size hf, hl], fun hn => ?_⟩
  · obtain ⟨i, hi, e⟩ := List.getElem_of_mem hx
    exact (hq i x (by rw [← e]; exact List.getElem?_eq_getElem hi)).1
  · obtain ⟨b, off, spot⟩ := a
    have h0 : xs[0]? = some (xs[0]'(by omega)) := List.getElem?_eq_getElem (by omega)
    have hc := (hq 0 _ h0).2 0 _ (List.getElem?_eq_getElem (by rw [hf]; exact hsz))
    have hspot : spot = none := by simpa [Addr.add] using World.cell?_spot hc
    subst hspot
    refine ⟨b, off, rfl, ?_, fun m u hu => ?_⟩
    · have := World.block_lt_of_cell? w _ hc
      rw [add_plain'] at this
      exact this
    · obtain ⟨k, j, x, rfl, hj, hx, hu'⟩ := flat_split f size hf xs m u hu
      have := (hq k x hx).2 j u hu'
      rwa [add_plain'] at this

/-- A slice of structs of one-cell fields. -/
theorem open_structs {r : Reach} {b0 : Nat} {t e : TypeId} {fs : Array Field} {v : Value} {d : DataW H} {p : List MemPlace} {α : Type} {f : α → List Value} {G : α → Prop}
    (ht : P.underlying t = some (.slice e)) (he : P.underlying e = some (.struct fs)) (hone : oneCellFields P fs = true) (hC : P.cellsOf e = fs.size) (hsz : 0 < fs.size) (hf : ∀ x, (f x).length = fs.size)
    (hG : ∀ us : List Value, us.length = fs.size → (∀ (j : Nat) (g : Field), fs[j]? = some g → ∃ u n y, us[j]? = some u ∧ DataW.trod enc P w base spare held n g.type [u] = some y) → ∃ x, us = f x ∧ G x)
    (hv : Value.okWide P w r b0 t v) (h : DataW.Trod enc P w base spare held t v d p) :
    ∃ (A : Option Addr) (n c : Nat) (xs : List α), v = .slice A n c ∧ n ≤ c ∧ c ≤ maxLen ∧ xs.length = n ∧ (∀ x ∈ xs, G x) ∧ Rd w A n fs.size (xs.flatMap f) := by
  obtain ⟨A, n, c, rfl⟩ := okWide_slice ht hv
  obtain ⟨fuel, hf'⟩ := h
  rcases open_slice ht hf' with ⟨hcs, _⟩ | ⟨a, len, cap, m, n', D, Pl, hcs, hb, hl, hm, hmm, hx, hi⟩
  · simp [Value.cells] at hcs
    obtain ⟨rfl, rfl, rfl⟩ := hcs
    exact ⟨none, 0, 0, [], rfl, Nat.le_refl _, Nat.zero_le _, rfl, by simp, Rd.nil _ _ _⟩
  · simp [Value.cells] at hcs
    obtain ⟨rfl, rfl, rfl⟩ := hcs
    obtain ⟨xs, h1, h2, h3⟩ := rd_of (w := w) (a := a) (n := n) (f := f) (G := G) hsz hf (fun i hi' => by
      obtain ⟨cs', hc, ht'⟩ := hi i (by rw [hmm]; split <;> omega)
      rw [hC] at hc
      obtain ⟨_, hcl, hat⟩ := World.cells?_some hc
      obtain ⟨ys, n2, _, _, _, hyl, hff⟩ := DataW.trod_struct he ht'
      obtain ⟨x, rfl, hg⟩ := hG cs' (by omega) (fun j g hj => by
        have hl : j < fs.size := (Array.getElem?_eq_some_iff.1 hj).1
        obtain ⟨o0, k0⟩ := hone_of hone j g hj
        have h1 := hff j g hj
        rw [o0, k0] at h1
        have hone' : (cs'.drop j).take 1 = [cs'[j]'(by omega)] := by
          rw [List.drop_eq_getElem_cons (by omega)]
          rfl
        rw [hone'] at h1
        have hxs : ys[j]? = some (ys[j]'(by omega)) := List.getElem?_eq_getElem (by omega)
        exact ⟨_, _, _, List.getElem?_eq_getElem (by omega), h1.trans hxs⟩)
      refine ⟨x, hg, fun j u hu => ?_⟩
      have hj : j < fs.size := by
        have := (List.getElem?_eq_some_iff.1 hu).1
        rw [hf] at this; exact this
      have := hat j hj
      rw [hu] at this
      rw [← Go.Deep.add_add]
      exact this)
    exact ⟨some a, n, c, xs, rfl, hl, hm, h1, h2, h3⟩
end
end Go.Proofs.YtoafaejhabjlnaaDoor
