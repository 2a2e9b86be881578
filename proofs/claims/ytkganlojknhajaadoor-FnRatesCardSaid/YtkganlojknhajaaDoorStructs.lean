/- Structs of one-cell fields: made by wip/structs.py. -/
import Derived.Test.YtkganlojknhajaaDoorOpen
import Derived.Test.YtkganlojknhajaaDoorProg
namespace Go.Proofs.YtkganlojknhajaaDoor
open Go.ChangeShapes Go.WideShapes Go.RowKit Go.Deep
set_option linter.unusedVariables false
set_option linter.unusedSimpArgs false
set_option maxRecDepth 100000
section
variable {H : Type} {enc : TypeId × Value → H} {w : World} {base : Nat} {spare : Nat → Bool} {held : Bool}


/-- Rate, as the program has it. -/
structure Rate where
  Zone : Int
  Grams : Int
  From : Int
  Until : Int
  Cents : Int
def Rate.cs (x : Rate) : List Value := [.int .i64 x.Zone, .int .i64 x.Grams, .int .i64 x.From, .int .i64 x.Until, .int .i64 x.Cents]
theorem Rate.len (x : Rate) : x.cs.length = 5 := rfl
def Rate.Wf (x : Rate) : Prop := (Lit.int .i64 x.Zone).wf = true ∧ (Lit.int .i64 x.Grams).wf = true ∧ (Lit.int .i64 x.From).wf = true ∧ (Lit.int .i64 x.Until).wf = true ∧ (Lit.int .i64 x.Cents).wf = true
theorem Rate.one (xs : List Rate) : ∀ u ∈ xs.flatMap Rate.cs, u.oneCell' = true := by
  intro u hu
  obtain ⟨x, _, hx⟩ := List.mem_flatMap.1 hu
  simp only [Rate.cs, List.mem_cons, List.not_mem_nil, or_false] at hx
  rcases hx with rfl | rfl | rfl | rfl | rfl <;> rfl
theorem Rate.at_ {A : Option Addr} {n k : Nat} {xs : List Rate} (h : Rd w A n 5 (xs.flatMap Rate.cs)) (hn : xs.length = n) (hk : k < n) :
    ∃ b off x, A = some ⟨b, off, none⟩ ∧ b < w.heap.size ∧ Hid (xs[k]? = some x) ∧ w.cell? ⟨b, off + k * 5, none⟩ = some (.int .i64 x.Zone) ∧ w.cell? ⟨b, off + k * 5 + 1, none⟩ = some (.int .i64 x.Grams) ∧ w.cell? ⟨b, off + k * 5 + 2, none⟩ = some (.int .i64 x.From) ∧ w.cell? ⟨b, off + k * 5 + 3, none⟩ = some (.int .i64 x.Until) ∧ w.cell? ⟨b, off + k * 5 + 4, none⟩ = some (.int .i64 x.Cents) := by
  obtain ⟨b, off, x, e, hb, hx, hc⟩ := h.at_ Rate.len hn hk
  refine ⟨b, off, x, e, hb, hx, ?_, ?_, ?_, ?_, ?_⟩
  · have := hc 0 _ rfl
    simpa [Nat.add_assoc] using this
  · have := hc 1 _ rfl
    simpa [Nat.add_assoc] using this
  · have := hc 2 _ rfl
    simpa [Nat.add_assoc] using this
  · have := hc 3 _ rfl
    simpa [Nat.add_assoc] using this
  · have := hc 4 _ rfl
    simpa [Nat.add_assoc] using this
theorem take_Rate {us : List Value} (hl : us.length = 5) (hf : ∀ (j : Nat) (g : Field), (#[{ name := "Zone", type := 3, offset := 0, embedded := false, tag := "", pkgPath := "", byteOffset := 0 }, { name := "Grams", type := 3, offset := 1, embedded := false, tag := "", pkgPath := "", byteOffset := 8 }, { name := "From", type := 3, offset := 2, embedded := false, tag := "", pkgPath := "", byteOffset := 16 }, { name := "Until", type := 3, offset := 3, embedded := false, tag := "", pkgPath := "", byteOffset := 24 }, { name := "Cents", type := 3, offset := 4, embedded := false, tag := "", pkgPath := "", byteOffset := 32 }] : Array Field)[j]? = some g → ∃ u n y, us[j]? = some u ∧ DataW.trod enc Tryd.prog w base spare held n g.type [u] = some y) : ∃ x : Rate, us = x.cs ∧ x.Wf := by
  match us, hl with
  | [c0, c1, c2, c3, c4], _ =>
    obtain ⟨u0, n0, y0, e0, t0⟩ := hf 0 _ rfl
    simp at e0; subst e0
    obtain ⟨a0, rfl, w0⟩ := trod_i64 Tryd.underlying3 t0
    obtain ⟨u1, n1, y1, e1, t1⟩ := hf 1 _ rfl
    simp at e1; subst e1
    obtain ⟨a1, rfl, w1⟩ := trod_i64 Tryd.underlying3 t1
    obtain ⟨u2, n2, y2, e2, t2⟩ := hf 2 _ rfl
    simp at e2; subst e2
    obtain ⟨a2, rfl, w2⟩ := trod_i64 Tryd.underlying3 t2
    obtain ⟨u3, n3, y3, e3, t3⟩ := hf 3 _ rfl
    simp at e3; subst e3
    obtain ⟨a3, rfl, w3⟩ := trod_i64 Tryd.underlying3 t3
    obtain ⟨u4, n4, y4, e4, t4⟩ := hf 4 _ rfl
    simp at e4; subst e4
    obtain ⟨a4, rfl, w4⟩ := trod_i64 Tryd.underlying3 t4
    exact ⟨⟨a0, a1, a2, a3, a4⟩, rfl, ⟨w0, w1, w2, w3, w4⟩⟩
theorem open_Rate {r : Reach} {b0 : Nat} {v : Value} {d : DataW H} {p : List MemPlace} (hv : Value.okWide Tryd.prog w r b0 23 v) (h : DataW.Trod enc Tryd.prog w base spare held 23 v d p) :
    ∃ s : Rate, v = .agg #[.int .i64 s.Zone, .int .i64 s.Grams, .int .i64 s.From, .int .i64 s.Until, .int .i64 s.Cents] ∧ s.Wf := by
  obtain ⟨cs, rfl, hl, hf⟩ := open_fields Tryd.underlying23 (by kernel_rfl) (by kernel_rfl) hv h
  obtain ⟨x, rfl, hw⟩ := take_Rate hl hf
  exact ⟨x, rfl, hw⟩




end
end Go.Proofs.YtkganlojknhajaaDoor
