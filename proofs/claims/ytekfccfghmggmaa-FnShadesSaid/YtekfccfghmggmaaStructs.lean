/- Structs of one-cell fields: made by wip/structs.py. -/
import Derived.Test.YtekfccfghmggmaaOpen
import Derived.Test.YtekfccfghmggmaaProg
namespace Go.Proofs.Ytekfccfghmggmaa
open Go.ChangeShapes Go.WideShapes Go.RowKit Go.Deep
set_option linter.unusedVariables false
set_option linter.unusedSimpArgs false
set_option maxRecDepth 100000
section
variable {H : Type} {enc : TypeId × Value → H} {w : World} {base : Nat} {spare : Nat → Bool} {held : Bool}

/-- Shade, as the program has it. -/
structure Shade where
  Name : ByteArray
  Hue : Int
  Width : Int
  Dark : Int
  Light : Int
def Shade.cs (x : Shade) : List Value := [.string x.Name, .int .i64 x.Hue, .int .i64 x.Width, .int .i64 x.Dark, .int .i64 x.Light]
theorem Shade.len (x : Shade) : x.cs.length = 5 := rfl
def Shade.Wf (x : Shade) : Prop := x.Name.size ≤ maxLen ∧ (Lit.int .i64 x.Hue).wf = true ∧ (Lit.int .i64 x.Width).wf = true ∧ (Lit.int .i64 x.Dark).wf = true ∧ (Lit.int .i64 x.Light).wf = true
theorem Shade.one (xs : List Shade) : ∀ u ∈ xs.flatMap Shade.cs, u.oneCell' = true := by
  intro u hu
  obtain ⟨x, _, hx⟩ := List.mem_flatMap.1 hu
  simp only [Shade.cs, List.mem_cons, List.not_mem_nil, or_false] at hx
  rcases hx with rfl | rfl | rfl | rfl | rfl <;> rfl
theorem Shade.at_ {A : Option Addr} {n k : Nat} {xs : List Shade} (h : Rd w A n 5 (xs.flatMap Shade.cs)) (hn : xs.length = n) (hk : k < n) :
    ∃ b off x, A = some ⟨b, off, none⟩ ∧ b < w.heap.size ∧ Hid (xs[k]? = some x) ∧ w.cell? ⟨b, off + k * 5, none⟩ = some (.string x.Name) ∧ w.cell? ⟨b, off + k * 5 + 1, none⟩ = some (.int .i64 x.Hue) ∧ w.cell? ⟨b, off + k * 5 + 2, none⟩ = some (.int .i64 x.Width) ∧ w.cell? ⟨b, off + k * 5 + 3, none⟩ = some (.int .i64 x.Dark) ∧ w.cell? ⟨b, off + k * 5 + 4, none⟩ = some (.int .i64 x.Light) := by
  obtain ⟨b, off, x, e, hb, hx, hc⟩ := h.at_ Shade.len hn hk
  refine ⟨b, off, x, e, hb, hx, ?_, ?_, ?_, ?_, ?_⟩
  · have := hc 0 _ rfl
    simpa [Nat.add_assoc] using this
  · have := hc 1 _ rfl
    simpa [Nat.add_assoc] using this
  · have := hc 2 _ rfl
    simpa [Nat.add_assoc] using this
  · have := hc 3 _ rfl
    simpa [Nat.add_assoc] using this
  · have := hc 4 _ rfl
    simpa [Nat.add_assoc] using this
theorem take_Shade {us : List Value} (hl : us.length = 5) (hf : ∀ (j : Nat) (g : Field), (#[{ name := "Name", type := 9, offset := 0, embedded := false, tag := "", pkgPath := "", byteOffset := 0 }, { name := "Hue", type := 3, offset := 1, embedded := false, tag := "", pkgPath := "", byteOffset := 16 }, { name := "Width", type := 3, offset := 2, embedded := false, tag := "", pkgPath := "", byteOffset := 24 }, { name := "Dark", type := 3, offset := 3, embedded := false, tag := "", pkgPath := "", byteOffset := 32 }, { name := "Light", type := 3, offset := 4, embedded := false, tag := "", pkgPath := "", byteOffset := 40 }] : Array Field)[j]? = some g → ∃ u n y, us[j]? = some u ∧ DataW.trod enc Try.prog w base spare held n g.type [u] = some y) : ∃ x : Shade, us = x.cs ∧ x.Wf := by
  match us, hl with
  | [c0, c1, c2, c3, c4], _ =>
    obtain ⟨u0, n0, y0, e0, t0⟩ := hf 0 _ rfl
    simp at e0; subst e0
    obtain ⟨a0, rfl, w0⟩ := trod_str Try.underlying9 t0
    obtain ⟨u1, n1, y1, e1, t1⟩ := hf 1 _ rfl
    simp at e1; subst e1
    obtain ⟨a1, rfl, w1⟩ := trod_i64 Try.underlying3 t1
    obtain ⟨u2, n2, y2, e2, t2⟩ := hf 2 _ rfl
    simp at e2; subst e2
    obtain ⟨a2, rfl, w2⟩ := trod_i64 Try.underlying3 t2
    obtain ⟨u3, n3, y3, e3, t3⟩ := hf 3 _ rfl
    simp at e3; subst e3
    obtain ⟨a3, rfl, w3⟩ := trod_i64 Try.underlying3 t3
    obtain ⟨u4, n4, y4, e4, t4⟩ := hf 4 _ rfl
    simp at e4; subst e4
    obtain ⟨a4, rfl, w4⟩ := trod_i64 Try.underlying3 t4
    exact ⟨⟨a0, a1, a2, a3, a4⟩, rfl, ⟨w0, w1, w2, w3, w4⟩⟩
theorem open_Shade {r : Reach} {b0 : Nat} {v : Value} {d : DataW H} {p : List MemPlace} (hv : Value.okWide Try.prog w r b0 56 v) (h : DataW.Trod enc Try.prog w base spare held 56 v d p) :
    ∃ s : Shade, v = .agg #[.string s.Name, .int .i64 s.Hue, .int .i64 s.Width, .int .i64 s.Dark, .int .i64 s.Light] ∧ s.Wf := by
  obtain ⟨cs, rfl, hl, hf⟩ := open_fields Try.underlying56 (by kernel_rfl) (by kernel_rfl) hv h
  obtain ⟨x, rfl, hw⟩ := take_Shade hl hf
  exact ⟨x, rfl, hw⟩
theorem open_ShadeS {r : Reach} {b0 : Nat} {v : Value} {d : DataW H} {p : List MemPlace} (hv : Value.okWide Try.prog w r b0 22 v) (h : DataW.Trod enc Try.prog w base spare held 22 v d p) :
    ∃ (A : Option Addr) (n c : Nat) (xs : List Shade), v = .slice A n c ∧ n ≤ c ∧ c ≤ maxLen ∧ xs.length = n ∧ (∀ x ∈ xs, x.Wf) ∧ Rd w A n 5 (xs.flatMap Shade.cs) :=
  open_structs Try.underlying22 Try.underlying56 (by kernel_rfl) (by kernel_rfl) (by decide) Shade.len (fun us hl hf => take_Shade hl hf) hv h





end
end Go.Proofs.Ytekfccfghmggmaa
