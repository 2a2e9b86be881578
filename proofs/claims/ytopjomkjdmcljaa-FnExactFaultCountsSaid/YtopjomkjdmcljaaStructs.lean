/- Structs of one-cell fields: made by wip/structs.py. -/
import Derived.Test.YtopjomkjdmcljaaOpen
import Derived.Test.YtopjomkjdmcljaaProg
namespace Go.Proofs.Ytopjomkjdmcljaa
open Go.ChangeShapes Go.WideShapes Go.RowKit Go.Deep
set_option linter.unusedVariables false
set_option linter.unusedSimpArgs false
set_option maxRecDepth 100000
section
variable {H : Type} {enc : TypeId × Value → H} {w : World} {base : Nat} {spare : Nat → Bool} {held : Bool}


/-- Rate, as the program has it. -/
structure Rate where
  Zone : Int
  Grams : Int
  From : Int
  Until : Int
  Cents : Int
def Rate.cs (x : Rate) : List Value := [.int .i64 x.Zone, .int .i64 x.Grams, .int .i64 x.From, .int .i64 x.Until, .int .i64 x.Cents]
theorem Rate.len (x : Rate) : x.cs.length = 5 := rfl
def Rate.Wf (x : Rate) : Prop := (Lit.int .i64 x.Zone).wf = true ∧ (Lit.int .i64 x.Grams).wf = true ∧ (Lit.int .i64 x.From).wf = true ∧ (Lit.int .i64 x.Until).wf = true ∧ (Lit.int .i64 x.Cents).wf = true
theorem Rate.one (xs : List Rate) : ∀ u ∈ xs.flatMap Rate.cs, u.oneCell' = true := by
  intro u hu
  obtain ⟨x, _, hx⟩ := List.mem_flatMap.1 hu
  simp only [Rate.cs, List.mem_cons, List.not_mem_nil, or_false] at hx
  rcases hx with rfl | rfl | rfl | rfl | rfl <;> rfl
theorem Rate.at_ {A : Option Addr} {n k : Nat} {xs : List Rate} (h : Rd w A n 5 (xs.flatMap Rate.cs)) (hn : xs.length = n) (hk : k < n) :
    ∃ b off x, A = some ⟨b, off, none⟩ ∧ b < w.heap.size ∧ Hid (xs[k]? = some x) ∧ w.cell? ⟨b, off + k * 5, none⟩ = some (.int .i64 x.Zone) ∧ w.cell? ⟨b, off + k * 5 + 1, none⟩ = some (.int .i64 x.Grams) ∧ w.cell? ⟨b, off + k * 5 + 2, none⟩ = some (.int .i64 x.From) ∧ w.cell? ⟨b, off + k * 5 + 3, none⟩ = some (.int .i64 x.Until) ∧ w.cell? ⟨b, off + k * 5 + 4, none⟩ = some (.int .i64 x.Cents) := by
  obtain ⟨b, off, x, e, hb, hx, hc⟩ := h.at_ Rate.len hn hk
  refine ⟨b, off, x, e, hb, hx, ?_, ?_, ?_, ?_, ?_⟩
  · have := hc 0 _ rfl
    simpa [Nat.add_assoc] using this
  · have := hc 1 _ rfl
    simpa [Nat.add_assoc] using this
  · have := hc 2 _ rfl
    simpa [Nat.add_assoc] using this
  · have := hc 3 _ rfl
    simpa [Nat.add_assoc] using this
  · have := hc 4 _ rfl
    simpa [Nat.add_assoc] using this
theorem take_Rate {us : List Value} (hl : us.length = 5) (hf : ∀ (j : Nat) (g : Field), (#[{ name := "Zone", type := 3, offset := 0, embedded := false, tag := "", pkgPath := "", byteOffset := 0 }, { name := "Grams", type := 3, offset := 1, embedded := false, tag := "", pkgPath := "", byteOffset := 8 }, { name := "From", type := 3, offset := 2, embedded := false, tag := "", pkgPath := "", byteOffset := 16 }, { name := "Until", type := 3, offset := 3, embedded := false, tag := "", pkgPath := "", byteOffset := 24 }, { name := "Cents", type := 3, offset := 4, embedded := false, tag := "", pkgPath := "", byteOffset := 32 }] : Array Field)[j]? = some g → ∃ u n y, us[j]? = some u ∧ DataW.trod enc Try.prog w base spare held n g.type [u] = some y) : ∃ x : Rate, us = x.cs ∧ x.Wf := by
  match us, hl with
  | [c0, c1, c2, c3, c4], _ =>
    obtain ⟨u0, n0, y0, e0, t0⟩ := hf 0 _ rfl
    simp at e0; subst e0
    obtain ⟨a0, rfl, w0⟩ := trod_i64 Try.underlying3 t0
    obtain ⟨u1, n1, y1, e1, t1⟩ := hf 1 _ rfl
    simp at e1; subst e1
    obtain ⟨a1, rfl, w1⟩ := trod_i64 Try.underlying3 t1
    obtain ⟨u2, n2, y2, e2, t2⟩ := hf 2 _ rfl
    simp at e2; subst e2
    obtain ⟨a2, rfl, w2⟩ := trod_i64 Try.underlying3 t2
    obtain ⟨u3, n3, y3, e3, t3⟩ := hf 3 _ rfl
    simp at e3; subst e3
    obtain ⟨a3, rfl, w3⟩ := trod_i64 Try.underlying3 t3
    obtain ⟨u4, n4, y4, e4, t4⟩ := hf 4 _ rfl
    simp at e4; subst e4
    obtain ⟨a4, rfl, w4⟩ := trod_i64 Try.underlying3 t4
    exact ⟨⟨a0, a1, a2, a3, a4⟩, rfl, ⟨w0, w1, w2, w3, w4⟩⟩
theorem open_Rate {r : Reach} {b0 : Nat} {v : Value} {d : DataW H} {p : List MemPlace} (hv : Value.okWide Try.prog w r b0 76 v) (h : DataW.Trod enc Try.prog w base spare held 76 v d p) :
    ∃ s : Rate, v = .agg #[.int .i64 s.Zone, .int .i64 s.Grams, .int .i64 s.From, .int .i64 s.Until, .int .i64 s.Cents] ∧ s.Wf := by
  obtain ⟨cs, rfl, hl, hf⟩ := open_fields Try.underlying76 (by kernel_rfl) (by kernel_rfl) hv h
  obtain ⟨x, rfl, hw⟩ := take_Rate hl hf
  exact ⟨x, rfl, hw⟩
theorem open_RateS {r : Reach} {b0 : Nat} {v : Value} {d : DataW H} {p : List MemPlace} (hv : Value.okWide Try.prog w r b0 38 v) (h : DataW.Trod enc Try.prog w base spare held 38 v d p) :
    ∃ (A : Option Addr) (n c : Nat) (xs : List Rate), v = .slice A n c ∧ n ≤ c ∧ c ≤ maxLen ∧ xs.length = n ∧ (∀ x ∈ xs, x.Wf) ∧ Rd w A n 5 (xs.flatMap Rate.cs) :=
  open_structs Try.underlying38 Try.underlying76 (by kernel_rfl) (by kernel_rfl) (by decide) Rate.len (fun us hl hf => take_Rate hl hf) hv h

/-- Mail, as the program has it. -/
structure Mail where
  Leave : Int
  From : Int
  To : Int
  Arrive : Int
def Mail.cs (x : Mail) : List Value := [.int .i64 x.Leave, .int .i64 x.From, .int .i64 x.To, .int .i64 x.Arrive]
theorem Mail.len (x : Mail) : x.cs.length = 4 := rfl
def Mail.Wf (x : Mail) : Prop := (Lit.int .i64 x.Leave).wf = true ∧ (Lit.int .i64 x.From).wf = true ∧ (Lit.int .i64 x.To).wf = true ∧ (Lit.int .i64 x.Arrive).wf = true
theorem Mail.one (xs : List Mail) : ∀ u ∈ xs.flatMap Mail.cs, u.oneCell' = true := by
  intro u hu
  obtain ⟨x, _, hx⟩ := List.mem_flatMap.1 hu
  simp only [Mail.cs, List.mem_cons, List.not_mem_nil, or_false] at hx
  rcases hx with rfl | rfl | rfl | rfl <;> rfl
theorem Mail.at_ {A : Option Addr} {n k : Nat} {xs : List Mail} (h : Rd w A n 4 (xs.flatMap Mail.cs)) (hn : xs.length = n) (hk : k < n) :
    ∃ b off x, A = some ⟨b, off, none⟩ ∧ b < w.heap.size ∧ Hid (xs[k]? = some x) ∧ w.cell? ⟨b, off + k * 4, none⟩ = some (.int .i64 x.Leave) ∧ w.cell? ⟨b, off + k * 4 + 1, none⟩ = some (.int .i64 x.From) ∧ w.cell? ⟨b, off + k * 4 + 2, none⟩ = some (.int .i64 x.To) ∧ w.cell? ⟨b, off + k * 4 + 3, none⟩ = some (.int .i64 x.Arrive) := by
  obtain ⟨b, off, x, e, hb, hx, hc⟩ := h.at_ Mail.len hn hk
  refine ⟨b, off, x, e, hb, hx, ?_, ?_, ?_, ?_⟩
  · have := hc 0 _ rfl
    simpa [Nat.add_assoc] using this
  · have := hc 1 _ rfl
    simpa [Nat.add_assoc] using this
  · have := hc 2 _ rfl
    simpa [Nat.add_assoc] using this
  · have := hc 3 _ rfl
    simpa [Nat.add_assoc] using this
theorem take_Mail {us : List Value} (hl : us.length = 4) (hf : ∀ (j : Nat) (g : Field), (#[{ name := "Leave", type := 3, offset := 0, embedded := false, tag := "", pkgPath := "", byteOffset := 0 }, { name := "From", type := 3, offset := 1, embedded := false, tag := "", pkgPath := "", byteOffset := 8 }, { name := "To", type := 3, offset := 2, embedded := false, tag := "", pkgPath := "", byteOffset := 16 }, { name := "Arrive", type := 3, offset := 3, embedded := false, tag := "", pkgPath := "", byteOffset := 24 }] : Array Field)[j]? = some g → ∃ u n y, us[j]? = some u ∧ DataW.trod enc Try.prog w base spare held n g.type [u] = some y) : ∃ x : Mail, us = x.cs ∧ x.Wf := by
  match us, hl with
  | [c0, c1, c2, c3], _ =>
    obtain ⟨u0, n0, y0, e0, t0⟩ := hf 0 _ rfl
    simp at e0; subst e0
    obtain ⟨a0, rfl, w0⟩ := trod_i64 Try.underlying3 t0
    obtain ⟨u1, n1, y1, e1, t1⟩ := hf 1 _ rfl
    simp at e1; subst e1
    obtain ⟨a1, rfl, w1⟩ := trod_i64 Try.underlying3 t1
    obtain ⟨u2, n2, y2, e2, t2⟩ := hf 2 _ rfl
    simp at e2; subst e2
    obtain ⟨a2, rfl, w2⟩ := trod_i64 Try.underlying3 t2
    obtain ⟨u3, n3, y3, e3, t3⟩ := hf 3 _ rfl
    simp at e3; subst e3
    obtain ⟨a3, rfl, w3⟩ := trod_i64 Try.underlying3 t3
    exact ⟨⟨a0, a1, a2, a3⟩, rfl, ⟨w0, w1, w2, w3⟩⟩
theorem open_Mail {r : Reach} {b0 : Nat} {v : Value} {d : DataW H} {p : List MemPlace} (hv : Value.okWide Try.prog w r b0 84 v) (h : DataW.Trod enc Try.prog w base spare held 84 v d p) :
    ∃ s : Mail, v = .agg #[.int .i64 s.Leave, .int .i64 s.From, .int .i64 s.To, .int .i64 s.Arrive] ∧ s.Wf := by
  obtain ⟨cs, rfl, hl, hf⟩ := open_fields Try.underlying84 (by kernel_rfl) (by kernel_rfl) hv h
  obtain ⟨x, rfl, hw⟩ := take_Mail hl hf
  exact ⟨x, rfl, hw⟩
theorem open_MailS {r : Reach} {b0 : Nat} {v : Value} {d : DataW H} {p : List MemPlace} (hv : Value.okWide Try.prog w r b0 46 v) (h : DataW.Trod enc Try.prog w base spare held 46 v d p) :
    ∃ (A : Option Addr) (n c : Nat) (xs : List Mail), v = .slice A n c ∧ n ≤ c ∧ c ≤ maxLen ∧ xs.length = n ∧ (∀ x ∈ xs, x.Wf) ∧ Rd w A n 4 (xs.flatMap Mail.cs) :=
  open_structs Try.underlying46 Try.underlying84 (by kernel_rfl) (by kernel_rfl) (by decide) Mail.len (fun us hl hf => take_Mail hl hf) hv h

/-- Cover, as the program has it. -/
structure Cover where
  Id : Int
  Day : Int
  Zone : Int
  Grams : Int
  Paid : Int
  From : Int
  To : Int
  Leave : Int
  Arrive : Int
def Cover.cs (x : Cover) : List Value := [.int .i64 x.Id, .int .i64 x.Day, .int .i64 x.Zone, .int .i64 x.Grams, .int .i64 x.Paid, .int .i64 x.From, .int .i64 x.To, .int .i64 x.Leave, .int .i64 x.Arrive]
theorem Cover.len (x : Cover) : x.cs.length = 9 := rfl
def Cover.Wf (x : Cover) : Prop := (Lit.int .i64 x.Id).wf = true ∧ (Lit.int .i64 x.Day).wf = true ∧ (Lit.int .i64 x.Zone).wf = true ∧ (Lit.int .i64 x.Grams).wf = true ∧ (Lit.int .i64 x.Paid).wf = true ∧ (Lit.int .i64 x.From).wf = true ∧ (Lit.int .i64 x.To).wf = true ∧ (Lit.int .i64 x.Leave).wf = true ∧ (Lit.int .i64 x.Arrive).wf = true
theorem Cover.one (xs : List Cover) : ∀ u ∈ xs.flatMap Cover.cs, u.oneCell' = true := by
  intro u hu
  obtain ⟨x, _, hx⟩ := List.mem_flatMap.1 hu
  simp only [Cover.cs, List.mem_cons, List.not_mem_nil, or_false] at hx
  rcases hx with rfl | rfl | rfl | rfl | rfl | rfl | rfl | rfl | rfl <;> rfl
theorem Cover.at_ {A : Option Addr} {n k : Nat} {xs : List Cover} (h : Rd w A n 9 (xs.flatMap Cover.cs)) (hn : xs.length = n) (hk : k < n) :
    ∃ b off x, A = some ⟨b, off, none⟩ ∧ b < w.heap.size ∧ Hid (xs[k]? = some x) ∧ w.cell? ⟨b, off + k * 9, none⟩ = some (.int .i64 x.Id) ∧ w.cell? ⟨b, off + k * 9 + 1, none⟩ = some (.int .i64 x.Day) ∧ w.cell? ⟨b, off + k * 9 + 2, none⟩ = some (.int .i64 x.Zone) ∧ w.cell? ⟨b, off + k * 9 + 3, none⟩ = some (.int .i64 x.Grams) ∧ w.cell? ⟨b, off + k * 9 + 4, none⟩ = some (.int .i64 x.Paid) ∧ w.cell? ⟨b, off + k * 9 + 5, none⟩ = some (.int .i64 x.From) ∧ w.cell? ⟨b, off + k * 9 + 6, none⟩ = some (.int .i64 x.To) ∧ w.cell? ⟨b, off + k * 9 + 7, none⟩ = some (.int .i64 x.Leave) ∧ w.cell? ⟨b, off + k * 9 + 8, none⟩ = some (.int .i64 x.Arrive) := by
  obtain ⟨b, off, x, e, hb, hx, hc⟩ := h.at_ Cover.len hn hk
  refine ⟨b, off, x, e, hb, hx, ?_, ?_, ?_, ?_, ?_, ?_, ?_, ?_, ?_⟩
  · have := hc 0 _ rfl
    simpa [Nat.add_assoc] using this
  · have := hc 1 _ rfl
    simpa [Nat.add_assoc] using this
  · have := hc 2 _ rfl
    simpa [Nat.add_assoc] using this
  · have := hc 3 _ rfl
    simpa [Nat.add_assoc] using this
  · have := hc 4 _ rfl
    simpa [Nat.add_assoc] using this
  · have := hc 5 _ rfl
    simpa [Nat.add_assoc] using this
  · have := hc 6 _ rfl
    simpa [Nat.add_assoc] using this
  · have := hc 7 _ rfl
    simpa [Nat.add_assoc] using this
  · have := hc 8 _ rfl
    simpa [Nat.add_assoc] using this
theorem take_Cover {us : List Value} (hl : us.length = 9) (hf : ∀ (j : Nat) (g : Field), (#[{ name := "Id", type := 3, offset := 0, embedded := false, tag := "", pkgPath := "", byteOffset := 0 }, { name := "Day", type := 3, offset := 1, embedded := false, tag := "", pkgPath := "", byteOffset := 8 }, { name := "Zone", type := 3, offset := 2, embedded := false, tag := "", pkgPath := "", byteOffset := 16 }, { name := "Grams", type := 3, offset := 3, embedded := false, tag := "", pkgPath := "", byteOffset := 24 }, { name := "Paid", type := 3, offset := 4, embedded := false, tag := "", pkgPath := "", byteOffset := 32 }, { name := "From", type := 3, offset := 5, embedded := false, tag := "", pkgPath := "", byteOffset := 40 }, { name := "To", type := 3, offset := 6, embedded := false, tag := "", pkgPath := "", byteOffset := 48 }, { name := "Leave", type := 3, offset := 7, embedded := false, tag := "", pkgPath := "", byteOffset := 56 }, { name := "Arrive", type := 3, offset := 8, embedded := false, tag := "", pkgPath := "", byteOffset := 64 }] : Array Field)[j]? = some g → ∃ u n y, us[j]? = some u ∧ DataW.trod enc Try.prog w base spare held n g.type [u] = some y) : ∃ x : Cover, us = x.cs ∧ x.Wf := by
  match us, hl with
  | [c0, c1, c2, c3, c4, c5, c6, c7, c8], _ =>
    obtain ⟨u0, n0, y0, e0, t0⟩ := hf 0 _ rfl
    simp at e0; subst e0
    obtain ⟨a0, rfl, w0⟩ := trod_i64 Try.underlying3 t0
    obtain ⟨u1, n1, y1, e1, t1⟩ := hf 1 _ rfl
    simp at e1; subst e1
    obtain ⟨a1, rfl, w1⟩ := trod_i64 Try.underlying3 t1
    obtain ⟨u2, n2, y2, e2, t2⟩ := hf 2 _ rfl
    simp at e2; subst e2
    obtain ⟨a2, rfl, w2⟩ := trod_i64 Try.underlying3 t2
    obtain ⟨u3, n3, y3, e3, t3⟩ := hf 3 _ rfl
    simp at e3; subst e3
    obtain ⟨a3, rfl, w3⟩ := trod_i64 Try.underlying3 t3
    obtain ⟨u4, n4, y4, e4, t4⟩ := hf 4 _ rfl
    simp at e4; subst e4
    obtain ⟨a4, rfl, w4⟩ := trod_i64 Try.underlying3 t4
    obtain ⟨u5, n5, y5, e5, t5⟩ := hf 5 _ rfl
    simp at e5; subst e5
    obtain ⟨a5, rfl, w5⟩ := trod_i64 Try.underlying3 t5
    obtain ⟨u6, n6, y6, e6, t6⟩ := hf 6 _ rfl
    simp at e6; subst e6
    obtain ⟨a6, rfl, w6⟩ := trod_i64 Try.underlying3 t6
    obtain ⟨u7, n7, y7, e7, t7⟩ := hf 7 _ rfl
    simp at e7; subst e7
    obtain ⟨a7, rfl, w7⟩ := trod_i64 Try.underlying3 t7
    obtain ⟨u8, n8, y8, e8, t8⟩ := hf 8 _ rfl
    simp at e8; subst e8
    obtain ⟨a8, rfl, w8⟩ := trod_i64 Try.underlying3 t8
    exact ⟨⟨a0, a1, a2, a3, a4, a5, a6, a7, a8⟩, rfl, ⟨w0, w1, w2, w3, w4, w5, w6, w7, w8⟩⟩
theorem open_Cover {r : Reach} {b0 : Nat} {v : Value} {d : DataW H} {p : List MemPlace} (hv : Value.okWide Try.prog w r b0 26 v) (h : DataW.Trod enc Try.prog w base spare held 26 v d p) :
    ∃ s : Cover, v = .agg #[.int .i64 s.Id, .int .i64 s.Day, .int .i64 s.Zone, .int .i64 s.Grams, .int .i64 s.Paid, .int .i64 s.From, .int .i64 s.To, .int .i64 s.Leave, .int .i64 s.Arrive] ∧ s.Wf := by
  obtain ⟨cs, rfl, hl, hf⟩ := open_fields Try.underlying26 (by kernel_rfl) (by kernel_rfl) hv h
  obtain ⟨x, rfl, hw⟩ := take_Cover hl hf
  exact ⟨x, rfl, hw⟩
theorem open_CoverS {r : Reach} {b0 : Nat} {v : Value} {d : DataW H} {p : List MemPlace} (hv : Value.okWide Try.prog w r b0 31 v) (h : DataW.Trod enc Try.prog w base spare held 31 v d p) :
    ∃ (A : Option Addr) (n c : Nat) (xs : List Cover), v = .slice A n c ∧ n ≤ c ∧ c ≤ maxLen ∧ xs.length = n ∧ (∀ x ∈ xs, x.Wf) ∧ Rd w A n 9 (xs.flatMap Cover.cs) :=
  open_structs Try.underlying31 Try.underlying26 (by kernel_rfl) (by kernel_rfl) (by decide) Cover.len (fun us hl hf => take_Cover hl hf) hv h


end
end Go.Proofs.Ytopjomkjdmcljaa
