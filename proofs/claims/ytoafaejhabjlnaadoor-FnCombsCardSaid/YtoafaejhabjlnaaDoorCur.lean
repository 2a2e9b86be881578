/- Choices read from bytes: next, pick, one, among. -/
import Derived.Test.YtoafaejhabjlnaaDoorOwn
import Derived.IntWalk
import Derived.Laws.Bits64b
namespace Go.Proofs.YtoafaejhabjlnaaDoor
open Go.RowKit
set_option linter.unusedVariables false
set_option linter.unusedSimpArgs false
attribute [local go_sem] ExtOf.cell

def bys (l : List Int) : List Value := l.map (Value.int .u8)
/-- The block of a slice lies below g. -/
def Low (A : Option Addr) (g : Nat) : Prop := ∀ b o s, A = some ⟨b, o, s⟩ → b < g
/-- A cursor in block g of which at most b choices are taken. -/
def Cur (w : World) (g b : Nat) : Prop := ∃ (A : Option Addr) (n c : Nat) (i s : Int) (l : List Int),
  w.ownsRow g 47 3 (.slice (some ⟨g, 0, none⟩) 1 1) 1 [.slice A n c, .int .i64 i, .int .u64 s] ∧ 0 ≤ i ∧ i ≤ b ∧ n ≤ maxLen ∧ Rd w A n 1 (bys l) ∧ (∀ x ∈ l, 0 ≤ x ∧ x ≤ 255) ∧ (0 < n → Low A g)
/-- What a step that takes choices leaves: only block g and new blocks are others. -/
def CurPost (g b : Nat) (w : World) (P : Value → World → Prop) (e : Ending) (w' : World) : Prop := ∃ v : Value, e = .returned v ∧ P v w' ∧ Cur w' g b ∧ w.grownBy w' (some g)
def IntIn (lo hi : Int) (v : Value) (w : World) : Prop := ∃ r : Int, v = .int .i64 r ∧ lo ≤ r ∧ r ≤ hi
theorem Cur.mono {w : World} {g b b' : Nat} (h : Cur w g b) (hb : b ≤ b') : Cur w g b' := by
  obtain ⟨A, n, c, i, s, l, h1, h2, h3, h4⟩ := h
  exact ⟨A, n, c, i, s, l, h1, h2, by omega, h4⟩
theorem Cur.lt {w : World} {g b : Nat} (h : Cur w g b) : g < w.heap.size := by
  obtain ⟨A, n, c, i, s, l, h1, _⟩ := h
  exact (h1.lt g rfl).2
theorem Cur.ext {w w' : World} {g b : Nat} (h : Cur w g b) (he : Ext w w') : Cur w' g b := by
  obtain ⟨A, n, c, i, s, l, h1, h2, h3, h4, h5, h6, h7⟩ := h
  exact ⟨A, n, c, i, s, l, he.own h1, h2, h3, h4, h5.ext he, h6, h7⟩
theorem grown_refl (w : World) (g : Option Nat) : w.grownBy w g := World.grownBy.refl w g
theorem grown_trans {a b c : World} {g : Option Nat} (h : a.grownBy b g) (k : b.grownBy c g) : a.grownBy c g :=
  ⟨k.os.trans h.os, k.tape.trans h.tape, k.output.trans h.output, Nat.le_trans h.size k.size, fun i hi hne => (k.block i (Nat.lt_of_lt_of_le hi h.size) hne).trans (h.block i hi hne)⟩
theorem grown_of_ext {a b : World} {g : Option Nat} (h : Ext a b) : a.grownBy b g := grown_ext (grown_refl a g) h
/-- Growth of a new block counts for nothing. -/
theorem grown_new {a b c : World} {g o : Option Nat} (h : a.grownBy b g) (k : b.grownBy c o) (ho : ∀ q, o = some q → a.heap.size ≤ q) : a.grownBy c g :=
  ⟨k.os.trans h.os, k.tape.trans h.tape, k.output.trans h.output, Nat.le_trans h.size k.size, fun i hi hne => (k.block i (Nat.lt_of_lt_of_le hi h.size) (fun e => by have := ho i e.symm; omega)).trans (h.block i hi hne)⟩
theorem Low.off {A : Option Addr} {g : Nat} (h : Low A g) : Off A g := fun b o s e => by have := h b o s e; omega
/-- A reading apart from the grown block goes on. -/
theorem Rd.grownO {w w' : World} {A : Option Addr} {n size : Nat} {cs : List Value} {o : Option Nat} (h : Rd w A n size cs) (hg : w.grownBy w' o) (ho : 0 < n → ∀ q, o = some q → Off A q) : Rd w' A n size cs := by
  refine ⟨h.1, fun hn => ?_⟩
  obtain ⟨b, off, e, hb, hc⟩ := h.2 hn
  refine ⟨b, off, e, Nat.lt_of_lt_of_le hb hg.size, fun j u hu => ?_⟩
  rw [World.cell?_of_block (hg.block b hb (fun e2 => ho hn b e2.symm b off none e rfl))]
  exact hc j u hu
theorem Rd.grown {w w' : World} {A : Option Addr} {n size g : Nat} {cs : List Value} (h : Rd w A n size cs) (hg : w.grownBy w' (some g)) (ho : Off A g) : Rd w' A n size cs :=
  h.grownO hg (fun _ q e => by injection e with e; subst e; exact ho)
theorem Cur.kept {w w' : World} {g b : Nat} {o : Option Nat} (h : Cur w g b) (hg : w.grownBy w' o) (ho : ∀ q, o = some q → g < q) : Cur w' g b := by
  obtain ⟨A, n, c, i, s, l, h1, h2, h3, h4, h5, h6, h7⟩ := h
  refine ⟨A, n, c, i, s, l, h1.kept hg ?_, h2, h3, h4, h5.grownO hg (fun hn q e b x s' e2 => by have := h7 hn b x s' e2; have := ho q e; omega), h6, h7⟩
  right
  intro e
  have := ho g e.symm
  omega
theorem Rd.byte {w : World} {A : Option Addr} {n k : Nat} {l : List Int} (h : Rd w A n 1 (bys l)) (hk : k < n) :
    ∃ b off x, A = some ⟨b, off, none⟩ ∧ b < w.heap.size ∧ x ∈ l ∧ w.cell? ⟨b, off + k, none⟩ = some (.int .u8 x) := by
  obtain ⟨b, off, e, hb, hc⟩ := h.2 (by omega)
  have hl : k < l.length := by have := h.1; simp [bys] at this; omega
  exact ⟨b, off, l[k], e, hb, List.getElem_mem hl, hc k _ (by simp [bys, List.getElem?_eq_getElem hl])⟩
theorem hg_block {w w' : World} {g b : Nat} (h : w.grownBy w' (some g)) (hlt : b < w.heap.size) (hne : b ≠ g) : w'.heap[b]? = w.heap[b]? := h.block b hlt (fun e => hne (by injection e))
theorem cell_keep {w w' : World} {g b o : Nat} {u : Value} (h : w.grownBy w' (some g)) (hne : b ≠ g) (hc : w.cell? ⟨b, o, none⟩ = some u) : w'.cell? ⟨b, o, none⟩ = some u := by
  have hlt : b < w.heap.size := World.block_lt_of_cell? w _ hc
  exact (World.cell?_of_block (hg_block h hlt hne)).trans hc
theorem frz_keep {w w' : World} {g b o : Nat} (h : w.grownBy w' (some g)) (hne : b ≠ g) (hlt : b < w.heap.size) (hc : w.frozen? ⟨b, o, none⟩ = false) : w'.frozen? ⟨b, o, none⟩ = false :=
  (World.frozen?_of_block (hg_block h hlt hne)).trans hc
def PickIn (k : Int) (v : Value) (w : World) : Prop := ∃ r : Int, v = .int .i64 r ∧ 0 ≤ r ∧ (r < k ∨ r = 0)
def BoolIn (v : Value) (w : World) : Prop := ∃ r : Bool, v = .bool r
/-- The bytes that a statement draws from. -/
structure CodeOk (w : World) (A : Option Addr) (n : Nat) (l : List Int) : Prop where
  small : n ≤ maxLen
  rd : Rd w A n 1 (bys l)
  bd : ∀ x ∈ l, 0 ≤ x ∧ x ≤ 255
theorem CodeOk.ext {w w' : World} {A : Option Addr} {n : Nat} {l : List Int} (h : CodeOk w A n l) (he : Ext w w') : CodeOk w' A n l := ⟨h.small, h.rd.ext he, h.bd⟩
/-- The cursor at the beginning. -/
theorem CodeOk.cur {w : World} {A : Option Addr} {n : Nat} {l : List Int} (h : CodeOk w A n l) (c : Nat) : Cur (w.alloc (.cells #[.slice A n c, .int .i64 0, .int .u64 0] 47)) w.heap.size 0 := by
  refine ⟨A, n, c, 0, 0, l, ?_, Int.le_refl _, Int.le_refl _, h.small, h.rd.ext ((Ext.refl w).alloc _), h.bd, fun hn b o s e => ?_⟩
  · exact ⟨by simp, .inr ⟨w.heap.size, 1, #[.slice A n c, .int .i64 0, .int .u64 0], rfl, Nat.le_refl _, heap_alloc_new w _, Nat.le_refl _, by unfold maxLen; omega, by simp, by simp⟩⟩
  · obtain ⟨b', o', e', hb, _⟩ := h.rd.2 hn
    rw [e] at e'
    injection e' with e'
    injection e' with e1
    omega
/-- All that a draw changes is new. -/
theorem ext_of_cur {w w' : World} {o : Obj} (h : (w.alloc o).grownBy w' (some w.heap.size)) : Ext w w' := ((Ext.refl w).alloc o).row h (Nat.le_refl _)
/-- A list that is being built while choices are taken: the cursor, the list's row, and that nothing else of what was there has changed. -/
structure DSt (w0 : World) (g b T size : Nat) (A : Option Addr) (n c : Nat) (cs : List Value) (w : World) : Prop where
  cur : Cur w g b
  row : w.ownsRow w0.heap.size T size (.slice A n c) n cs
  grown : w0.grownBy w (some g)
  hg : g < w0.heap.size
section
variable {w0 w w' : World} {g b T size n c : Nat} {A : Option Addr} {cs : List Value}
theorem DSt.step (h : DSt w0 g b T size A n c cs w) (he : Ext w w') : DSt w0 g b T size A n c cs w' := ⟨h.cur.ext he, he.own h.row, grown_trans h.grown (grown_of_ext he), h.hg⟩
theorem DSt.draw (h : DSt w0 g b T size A n c cs w) {b' : Nat} (hc : Cur w' g b') (hg : w.grownBy w' (some g)) : DSt w0 g b' T size A n c cs w' := by
  refine ⟨hc, h.row.kept hg ?_, grown_trans h.grown hg, h.hg⟩
  rcases hv : Value.ownBlock (.slice A n c) with _ | q
  · exact .inl rfl
  · right
    intro e
    have h1 := (h.row.lt q hv).1
    have h2 := h.hg
    injection e with e
    omega
theorem DSt.app (h : DSt w0 g b T size A n c cs w) {A' : Option Addr} {m c' : Nat} {cs' : List Value} (hr : w'.ownsRow w0.heap.size T size (.slice A' m c') m cs') (hg : w.grownBy w' (Value.ownBlock (.slice A n c))) : DSt w0 g b T size A' m c' cs' w' :=
  ⟨h.cur.kept hg (fun q hq => by have := (h.row.lt q hq).1; have := h.hg; omega), hr, grown_new h.grown hg (fun q hq => (h.row.lt q hq).1), h.hg⟩
theorem DSt.mono (h : DSt w0 g b T size A n c cs w) {b' : Nat} (hb : b ≤ b') : DSt w0 g b' T size A n c cs w := ⟨h.cur.mono hb, h.row, h.grown, h.hg⟩
theorem DSt.sz_le (h : DSt w0 g b T size A n c cs w) : w0.heap.size ≤ w.heap.size := h.grown.size
theorem DSt.off (h : DSt w0 g b T size A n c cs w) : Off A g := fun b x s e => by
  subst e
  have := (h.row.lt b rfl).1
  have := h.hg
  omega
end

theorem u64_wrap_bd (z : Int) : 0 ≤ IntKind.u64.wrap z ∧ IntKind.u64.wrap z < 18446744073709551616 := by
  rw [IntKind.wrap_u64]; omega
theorem byte_and {z : Int} (h : 0 ≤ z ∧ z < 18446744073709551616) : 0 ≤ wrap64 (bits BinOp.and IntKind.u64 (z / 1099511627776) 255) ∧ wrap64 (bits BinOp.and IntKind.u64 (z / 1099511627776) 255) ≤ 255 := by
  obtain ⟨a, ha⟩ : ∃ a : Nat, z / 1099511627776 = a := ⟨(z / 1099511627776).toNat, by omega⟩
  have h1 := bits_and_u64_nat a 255 (by omega) (by omega)
  have h2 : a &&& 255 ≤ 255 := Nat.and_le_right
  rw [ha, show (255 : Int) = ((255 : Nat) : Int) from rfl, h1]
  unfold wrap64
  omega
set_option maxRecDepth 100000 in
set_option maxHeartbeats 1000000 in
theorem next_any (g b : Nat) (w : World) (h : Cur w g b) (hb : b ≤ 1000000000) :
    Calls Tryd.prog 45 #[.pointer (some ⟨g, 0, none⟩)] w (CurPost g (b + 1) w (IntIn 0 255)) := by
  obtain ⟨A, n, c, i, s, l, h1, h2, h3, h4, h5, h6, h7⟩ := h
  unfold maxLen at h4
  obtain ⟨i, rfl⟩ : ∃ k : Nat, i = k := ⟨i.toNat, by omega⟩
  have g0 := own_at (j := 0) h1 rfl
  have g1 := own_at (j := 1) h1 rfl
  have g2 := own_at (j := 2) h1 rfl
  have hlt := (h1.lt g rfl).2
  have HO := Lib.hid h1
  have H5 := Lib.hid h5
  have H6 := Lib.hid h6
  clear h1
  by_cases hin : i < n
  · obtain ⟨bb, off, x, rfl, hbb, hx, gx⟩ := h5.byte hin
    have hxb := h6 x hx
    have hne : bb ≠ g := Nat.ne_of_lt (h7 (by omega) bb off none rfl)
    have hd : decide ((i : Int) < n) = true := by simp; omega
    clear h6 hx h5
    go_enter Tryd.func45, Tryd.ntmps45
    go_wp2
    (refine wp_region_ext_lit (by kernel_rfl) (by kernel_rfl) ?_; (repeat (go_big_quiet_step ((fail)))); refine wpQuiet_nil ?_; rintro wq ⟨⟨_, heq⟩, rfl⟩; (try dsimp only))
    have k0 := heq.cell1 g0
    have k1 := heq.cell1 g1
    have kx := heq.cell1 gx
    have kg : g < wq.heap.size := World.block_lt_of_cell? wq _ k0
    have kb : bb < wq.heap.size := World.block_lt_of_cell? wq _ kx
    have H1 := Lib.hid heq
    clear g0 g1 gx heq
    go_wp2
    (refine wp_region_ext_lit (by kernel_rfl) (by kernel_rfl) ?_; (repeat (go_big_quiet_step ((fail)))); refine wpQuiet_nil ?_; rintro wq ⟨⟨_, heq⟩, rfl⟩; (try dsimp only))
    have HQ := Lib.hid ((H1.out.trans heq).own HO.out)
    have E2 := Lib.hid (H1.out.trans heq)
    have m1 := own_at HQ.out (j := 1) rfl
    have m2 := own_at HQ.out (j := 2) rfl
    have n1 := HQ.out.frozenAt 1
    have n2 := HQ.out.frozenAt 2
    have mg : g < wq.heap.size := World.block_lt_of_cell? wq _ m1
    clear k0 k1 kx kg kb heq g2 hlt
    go_wp2
    have s1 := HQ.out.stored 1 (.int .i64 ((i : Int) + 1))
    have s2 := s1.1.stored 2 (.int .u64 (IntKind.u64.wrap (IntKind.u64.wrap (IntKind.u64.wrap (s * 6364136223846793005) + x) + 381907)))
    have GQ := Lib.hid (grown_trans (grown_of_ext (g := some g) E2.out) (grown_trans s1.2 s2.2))
    have R2 := Lib.hid s2.1
    clear s1 s2 m1 m2 n1 n2 mg
    simp only [List.set_cons_succ, List.set_cons_zero] at R2
    have hsd := u64_wrap_bd (IntKind.u64.wrap (IntKind.u64.wrap (s * 6364136223846793005) + x) + 381907)
    generalize IntKind.u64.wrap (IntKind.u64.wrap (IntKind.u64.wrap (s * 6364136223846793005) + x) + 381907) = sd at *
    generalize (wq.setCell ⟨g, 1, none⟩ (.int .i64 ((i : Int) + 1))).setCell ⟨g, 2, none⟩ (.int .u64 sd) = W2 at *
    have p0 := own_at R2.out (j := 0) rfl
    have p1 := own_at R2.out (j := 1) rfl
    have p2 := own_at R2.out (j := 2) rfl
    have pg : g < W2.heap.size := World.block_lt_of_cell? W2 _ p0
    have hd2 : decide ((i : Int) + 1 ≤ n) = true := by simp; omega
    (refine wp_region_ext_lit (by kernel_rfl) (by kernel_rfl) ?_; (repeat (go_big_quiet_step ((fail)))); refine wpQuiet_nil ?_; rintro wq ⟨⟨_, heq⟩, rfl⟩; (try dsimp only))
    have HC := Lib.hid (show Cur wq g (b + 1) from ⟨some ⟨bb, off, none⟩, n, c, (i : Int) + 1, sd, l, heq.own R2.out, by omega, by omega, by unfold maxLen; omega, (H5.out.grownO GQ.out (fun hn q e => by injection e with e; subst e; exact (h7 hn).off)).ext heq, H6.out, h7⟩)
    have HG := Lib.hid (grown_trans GQ.out (grown_of_ext (g := some g) heq))
    go_wp2
    go_ret
    exact ⟨_, rfl, ⟨x, rfl, hxb.1, hxb.2⟩, HC.out, HG.out⟩
  · have hd : decide ((i : Int) < n) = false := by simp; omega
    clear h5 h6
    go_enter Tryd.func45, Tryd.ntmps45
    go_wp2
    (refine wp_region_ext_lit (by kernel_rfl) (by kernel_rfl) ?_; (repeat (go_big_quiet_step ((fail)))); refine wpQuiet_nil ?_; rintro wq ⟨⟨_, heq⟩, rfl⟩; (try dsimp only))
    have HQ := Lib.hid (heq.own HO.out)
    have E2 := Lib.hid heq
    have m1 := own_at HQ.out (j := 1) rfl
    have m2 := own_at HQ.out (j := 2) rfl
    have n1 := HQ.out.frozenAt 1
    have n2 := HQ.out.frozenAt 2
    have mg : g < wq.heap.size := World.block_lt_of_cell? wq _ m1
    clear g0 g1 g2 heq hlt
    go_wp2
    have s1 := HQ.out.stored 1 (.int .i64 ((i : Int) + 1))
    have s2 := s1.1.stored 2 (.int .u64 (IntKind.u64.wrap (IntKind.u64.wrap (IntKind.u64.wrap (s * 6364136223846793005)) + 381907)))
    have GQ := Lib.hid (grown_trans (grown_of_ext (g := some g) E2.out) (grown_trans s1.2 s2.2))
    have R2 := Lib.hid s2.1
    clear s1 s2 m1 m2 n1 n2 mg
    simp only [List.set_cons_succ, List.set_cons_zero] at R2
    have hsd := u64_wrap_bd (IntKind.u64.wrap (IntKind.u64.wrap (s * 6364136223846793005)) + 381907)
    generalize IntKind.u64.wrap (IntKind.u64.wrap (IntKind.u64.wrap (s * 6364136223846793005)) + 381907) = sd at *
    generalize (wq.setCell ⟨g, 1, none⟩ (.int .i64 ((i : Int) + 1))).setCell ⟨g, 2, none⟩ (.int .u64 sd) = W2 at *
    have p0 := own_at R2.out (j := 0) rfl
    have p1 := own_at R2.out (j := 1) rfl
    have p2 := own_at R2.out (j := 2) rfl
    have pg : g < W2.heap.size := World.block_lt_of_cell? W2 _ p0
    have hd2 : decide ((i : Int) + 1 ≤ n) = false := by simp; omega
    (refine wp_region_ext_lit (by kernel_rfl) (by kernel_rfl) ?_; (repeat (go_big_quiet_step ((fail)))); refine wpQuiet_nil ?_; rintro wq ⟨⟨_, heq⟩, rfl⟩; (try dsimp only))
    have HC := Lib.hid (show Cur wq g (b + 1) from ⟨A, n, c, (i : Int) + 1, sd, l, heq.own R2.out, by omega, by omega, by unfold maxLen; omega, (H5.out.grownO GQ.out (fun hn q e => by injection e with e; subst e; exact (h7 hn).off)).ext heq, H6.out, h7⟩)
    have HG := Lib.hid (grown_trans GQ.out (grown_of_ext (g := some g) heq))
    have q2 := own_at (heq.own R2.out) (j := 2) rfl
    have qg : g < wq.heap.size := World.block_lt_of_cell? wq _ q2
    have hba := byte_and hsd
    have HBA := Lib.hid hba
    clear p0 p1 p2 pg heq hsd hba
    go_wp2
    go_ret
    exact ⟨_, rfl, ⟨_, rfl, HBA.out.1, HBA.out.2⟩, HC.out, HG.out⟩

set_option maxRecDepth 100000 in
set_option maxHeartbeats 1000000 in
theorem pick_any (g b : Nat) (k : Int) (w : World) (h : Cur w g b) (hb : b ≤ 999999990) (hk : k ≤ 100000) :
    Calls Tryd.prog 25 #[.pointer (some ⟨g, 0, none⟩), .int .i64 k] w (CurPost g (b + 2) w (PickIn k)) := by
  by_cases h1 : k ≤ 1
  · have hd : decide (k ≤ 1) = true := by simpa using h1
    go_enter Tryd.func25, Tryd.ntmps25
    go_wp2
    go_ret
    exact ⟨_, rfl, ⟨0, rfl, by omega, .inr rfl⟩, h.mono (by omega), grown_refl _ _⟩
  · have hd : decide (k ≤ 1) = false := by simpa using h1
    obtain ⟨k, rfl⟩ : ∃ q : Nat, k = q := ⟨k.toNat, by omega⟩
    by_cases h2 : 200 < (k : Int)
    · have hd2 : decide (200 < (k : Int)) = true := by simpa using h2
      go_enter Tryd.func25, Tryd.ntmps25
      go_wp2_with fail
      refine (next_any g b _ h (by omega)).mono ?_
      rintro e w1 ⟨v, rfl, ⟨r, rfl, r1, r2⟩, c1, g1⟩
      go_wp2_with fail
      refine (next_any g (b + 1) _ c1 (by omega)).mono ?_
      rintro e w2 ⟨v, rfl, ⟨s, rfl, s1, s2⟩, c2, g2⟩
      go_wp2
      go_ret
      exact ⟨_, rfl, ⟨(r * 256 + s) % k, rfl, Int.emod_nonneg _ (by omega), .inl (Int.emod_lt_of_pos _ (by omega))⟩, c2, grown_trans g1 g2⟩
    · have hd2 : decide (200 < (k : Int)) = false := by simpa using h2
      go_enter Tryd.func25, Tryd.ntmps25
      go_wp2_with fail
      refine (next_any g b _ h (by omega)).mono ?_
      rintro e w1 ⟨v, rfl, ⟨r, rfl, r1, r2⟩, c1, g1⟩
      go_wp2
      go_ret
      exact ⟨_, rfl, ⟨r % k, rfl, Int.emod_nonneg _ (by omega), .inl (Int.emod_lt_of_pos _ (by omega))⟩, c1.mono (by omega), g1⟩

set_option maxRecDepth 100000 in
set_option maxHeartbeats 1000000 in
theorem one_any (g b : Nat) (k : Int) (w : World) (h : Cur w g b) (hb : b ≤ 999999990) (hk : k ≤ 100000) :
    Calls Tryd.prog 26 #[.pointer (some ⟨g, 0, none⟩), .int .i64 k] w (CurPost g (b + 2) w BoolIn) := by
  go_enter Tryd.func26, Tryd.ntmps26
  go_wp2_with fail
  refine (pick_any g b k _ h hb hk).mono ?_
  rintro e w1 ⟨v, rfl, ⟨r, rfl, r0, r1⟩, c1, g1⟩
  go_wp2
  go_ret
  exact ⟨_, rfl, ⟨_, rfl⟩, c1, g1⟩

set_option maxRecDepth 100000 in
set_option maxHeartbeats 1000000 in
theorem among_any (g b : Nat) (A : Option Addr) (n c : Nat) (l : List Int) (lo hi : Int) (w : World) (h : Cur w g b) (hl : ∀ x ∈ l, lo ≤ x ∧ x ≤ hi) (hb : b ≤ 999999990) (hn : 0 < n) (hn2 : n ≤ 100000) (hr : Rd w A n 1 (ints l)) (ho : Off A g) :
    Calls Tryd.prog 24 #[.pointer (some ⟨g, 0, none⟩), .slice A n c] w (CurPost g (b + 2) w (IntIn lo hi)) := by
  have HL := Lib.hid hl
  clear hl
  go_enter Tryd.func24, Tryd.ntmps24
  go_wp2_with fail
  refine (pick_any g b n _ h hb (by omega)).mono ?_
  rintro e w1 ⟨v, rfl, ⟨r, rfl, r0, r1⟩, c1, g1⟩
  obtain ⟨r, rfl⟩ : ∃ q : Nat, r = q := ⟨r.toNat, by omega⟩
  have hrn : r < n := by omega
  have hrn2 : (r : Int) < n := by omega
  obtain ⟨bb, off, x, rfl, hbb, hx, gx⟩ := (hr.grown g1 ho).int hrn
  go_wp2
  go_ret
  have hx2 := HL.out x (List.mem_of_getElem? hx.out)
  exact ⟨_, rfl, ⟨x, rfl, hx2.1, hx2.2⟩, c1, g1⟩
theorem litRd (w : World) (l : List Int) (T : TypeId) : Rd (w.alloc (.cells (ints l).toArray T)) (some ⟨w.heap.size, 0, none⟩) l.length 1 (ints l) := by
  refine ⟨by simp [ints], fun _ => ⟨w.heap.size, 0, rfl, by simp, fun j u hu => ?_⟩⟩
  rw [Nat.zero_add, cell_of_row _ _ _ _ _ _ (heap_alloc_new w _)]
  simpa using hu
/-- A choice of a list that is written out. -/
theorem among_lit (g b : Nat) (l : List Int) (lo hi : Int) (w : World) (T : TypeId) (h : Cur w g b) (hl : ∀ x ∈ l, lo ≤ x ∧ x ≤ hi) (hb : b ≤ 999999990) (hn : 0 < l.length) (hn2 : l.length ≤ 100000) :
    Calls Tryd.prog 24 #[.pointer (some ⟨g, 0, none⟩), .slice (some ⟨w.heap.size, 0, none⟩) l.length l.length] (w.alloc (.cells (ints l).toArray T)) (CurPost g (b + 2) w (IntIn lo hi)) := by
  have hne : w.heap.size ≠ g := by have := h.lt; omega
  refine (among_any g b _ _ _ l lo hi _ (h.ext ((Ext.refl _).alloc _)) hl hb hn hn2 (litRd w l T) (Off.ne hne)).mono ?_
  rintro e w1 ⟨v, rfl, h1, c1, g1⟩
  exact ⟨v, rfl, h1, c1, grown_trans (grown_of_ext ((Ext.refl _).alloc _)) g1⟩
theorem among_at (g b gl : Nat) (l : List Int) (lo hi : Int) (w : World) (T : TypeId) (h : Cur w g b) (hgl : w.heap.size = gl) (hl : ∀ x ∈ l, lo ≤ x ∧ x ≤ hi) (hb : b ≤ 999999990) (hn : 0 < l.length) (hn2 : l.length ≤ 100000) :
    Calls Tryd.prog 24 #[.pointer (some ⟨g, 0, none⟩), .slice (some ⟨gl, 0, none⟩) l.length l.length] (w.alloc (.cells (ints l).toArray T)) (CurPost g (b + 2) w (IntIn lo hi)) := by
  subst hgl
  exact among_lit g b l lo hi w T h hl hb hn hn2
end Go.Proofs.YtoafaejhabjlnaaDoor
