/- Structs of one-cell fields: made by wip/structs.py. -/
import Derived.Test.YtphalkeokpnpfaaDoorOpen
import Derived.Test.YtphalkeokpnpfaaDoorProg
namespace Go.Proofs.YtphalkeokpnpfaaDoor
open Go.ChangeShapes Go.WideShapes Go.RowKit Go.Deep
set_option linter.unusedVariables false
set_option linter.unusedSimpArgs false
set_option maxRecDepth 100000
section
variable {H : Type} {enc : TypeId × Value → H} {w : World} {base : Nat} {spare : Nat → Bool} {held : Bool}





/-- Ban, as the program has it. -/
structure Ban where
  A : Int
  X : Int
  B : Int
  Y : Int
def Ban.cs (x : Ban) : List Value := [.int .i64 x.A, .int .i64 x.X, .int .i64 x.B, .int .i64 x.Y]
theorem Ban.len (x : Ban) : x.cs.length = 4 := rfl
def Ban.Wf (x : Ban) : Prop := (Lit.int .i64 x.A).wf = true ∧ (Lit.int .i64 x.X).wf = true ∧ (Lit.int .i64 x.B).wf = true ∧ (Lit.int .i64 x.Y).wf = true
theorem Ban.one (xs : List Ban) : ∀ u ∈ xs.flatMap Ban.cs, u.oneCell' = true := by
  intro u hu
  obtain ⟨x, _, hx⟩ := List.mem_flatMap.1 hu
  simp only [Ban.cs, List.mem_cons, List.not_mem_nil, or_false] at hx
  rcases hx with rfl | rfl | rfl | rfl <;> rfl
theorem Ban.at_ {A : Option Addr} {n k : Nat} {xs : List Ban} (h : Rd w A n 4 (xs.flatMap Ban.cs)) (hn : xs.length = n) (hk : k < n) :
    ∃ b off x, A = some ⟨b, off, none⟩ ∧ b < w.heap.size ∧ Hid (xs[k]? = some x) ∧ w.cell? ⟨b, off + k * 4, none⟩ = some (.int .i64 x.A) ∧ w.cell? ⟨b, off + k * 4 + 1, none⟩ = some (.int .i64 x.X) ∧ w.cell? ⟨b, off + k * 4 + 2, none⟩ = some (.int .i64 x.B) ∧ w.cell? ⟨b, off + k * 4 + 3, none⟩ = some (.int .i64 x.Y) := by
  obtain ⟨b, off, x, e, hb, hx, hc⟩ := h.at_ Ban.len hn hk
  refine ⟨b, off, x, e, hb, hx, ?_, ?_, ?_, ?_⟩
  · have := hc 0 _ rfl
    simpa [Nat.add_assoc] using this
  · have := hc 1 _ rfl
    simpa [Nat.add_assoc] using this
  · have := hc 2 _ rfl
    simpa [Nat.add_assoc] using this
  · have := hc 3 _ rfl
    simpa [Nat.add_assoc] using this
theorem take_Ban {us : List Value} (hl : us.length = 4) (hf : ∀ (j : Nat) (g : Field), (#[{ name := "A", type := 3, offset := 0, embedded := false, tag := "", pkgPath := "", byteOffset := 0 }, { name := "X", type := 3, offset := 1, embedded := false, tag := "", pkgPath := "", byteOffset := 8 }, { name := "B", type := 3, offset := 2, embedded := false, tag := "", pkgPath := "", byteOffset := 16 }, { name := "Y", type := 3, offset := 3, embedded := false, tag := "", pkgPath := "", byteOffset := 24 }] : Array Field)[j]? = some g → ∃ u n y, us[j]? = some u ∧ DataW.trod enc Tryd.prog w base spare held n g.type [u] = some y) : ∃ x : Ban, us = x.cs ∧ x.Wf := by
  match us, hl with
  | [c0, c1, c2, c3], _ =>
    obtain ⟨u0, n0, y0, e0, t0⟩ := hf 0 _ rfl
    simp at e0; subst e0
    obtain ⟨a0, rfl, w0⟩ := trod_i64 Tryd.underlying3 t0
    obtain ⟨u1, n1, y1, e1, t1⟩ := hf 1 _ rfl
    simp at e1; subst e1
    obtain ⟨a1, rfl, w1⟩ := trod_i64 Tryd.underlying3 t1
    obtain ⟨u2, n2, y2, e2, t2⟩ := hf 2 _ rfl
    simp at e2; subst e2
    obtain ⟨a2, rfl, w2⟩ := trod_i64 Tryd.underlying3 t2
    obtain ⟨u3, n3, y3, e3, t3⟩ := hf 3 _ rfl
    simp at e3; subst e3
    obtain ⟨a3, rfl, w3⟩ := trod_i64 Tryd.underlying3 t3
    exact ⟨⟨a0, a1, a2, a3⟩, rfl, ⟨w0, w1, w2, w3⟩⟩
theorem open_Ban {r : Reach} {b0 : Nat} {v : Value} {d : DataW H} {p : List MemPlace} (hv : Value.okWide Tryd.prog w r b0 72 v) (h : DataW.Trod enc Tryd.prog w base spare held 72 v d p) :
    ∃ s : Ban, v = .agg #[.int .i64 s.A, .int .i64 s.X, .int .i64 s.B, .int .i64 s.Y] ∧ s.Wf := by
  obtain ⟨cs, rfl, hl, hf⟩ := open_fields Tryd.underlying72 (by kernel_rfl) (by kernel_rfl) hv h
  obtain ⟨x, rfl, hw⟩ := take_Ban hl hf
  exact ⟨x, rfl, hw⟩
theorem open_BanS {r : Reach} {b0 : Nat} {v : Value} {d : DataW H} {p : List MemPlace} (hv : Value.okWide Tryd.prog w r b0 23 v) (h : DataW.Trod enc Tryd.prog w base spare held 23 v d p) :
    ∃ (A : Option Addr) (n c : Nat) (xs : List Ban), v = .slice A n c ∧ n ≤ c ∧ c ≤ maxLen ∧ xs.length = n ∧ (∀ x ∈ xs, x.Wf) ∧ Rd w A n 4 (xs.flatMap Ban.cs) :=
  open_structs Tryd.underlying23 Tryd.underlying72 (by kernel_rfl) (by kernel_rfl) (by decide) Ban.len (fun us hl hf => take_Ban hl hf) hv h

end
end Go.Proofs.YtphalkeokpnpfaaDoor
