/-
  'FnBans' answers true for every input, and leaves its argument as it was.
  Conditions: none beyond the given row's own.
-/
import Derived.Test.YtekggbmpogmlcaaApp
import Derived.Test.YtekggbmpogmlcaaNeedS
import Derived.IntWalk
import Derived.Laws.Bits64b
import Derived.Test.YtekggbmpogmlcaaOpen
import Derived.Test.YtekggbmpogmlcaaProg
import Derived.Test.YtekggbmpogmlcaaAddS
import Derived.Test.YtekggbmpogmlcaaAddI
import Derived.Deep.RegionHeld3
import Derived.Deep.CutBlock
import Derived.Deep.DeepCutAuto
import Derived.BigRegion
import Derived.Test.YtekggbmpogmlcaaDead
import Derived.Test.YtekggbmpogmlcaaKWith
import Derived.Test.YtekggbmpogmlcaaAddP
import Derived.Test.YtekggbmpogmlcaaArr2
import Derived.Test.YtekggbmpogmlcaaBanL
import Derived.ChangeKeysEq
import Derived.Test.YtekggbmpogmlcaaAddN
import Derived.Test.YtekggbmpogmlcaaRows
import Derived.ProofKit
import Derived.OpenShut
import Derived.Below
namespace Go.Proofs.Ytekggbmpogmlcaa
open Go.RowKit
set_option linter.unusedVariables false
set_option linter.unusedSimpArgs false
attribute [local go_sem] ExtOf.cell

end Go.Proofs.Ytekggbmpogmlcaa

namespace Go.Proofs.Ytekggbmpogmlcaa
open Go.RowKit
set_option linter.unusedVariables false
set_option linter.unusedSimpArgs false
attribute [local go_sem] ExtOf.cell

def bys (l : List Int) : List Value := l.map (Value.int .u8)
/-- The block of a slice lies below g. -/
def Low (A : Option Addr) (g : Nat) : Prop := ∀ b o s, A = some ⟨b, o, s⟩ → b < g
/-- A cursor in block g of which at most b choices are taken. -/
def Cur (w : World) (g b : Nat) : Prop := ∃ (A : Option Addr) (n c : Nat) (i s : Int) (l : List Int),
  w.ownsRow g 63 3 (.slice (some ⟨g, 0, none⟩) 1 1) 1 [.slice A n c, .int .i64 i, .int .u64 s] ∧ 0 ≤ i ∧ i ≤ b ∧ n ≤ maxLen ∧ Rd w A n 1 (bys l) ∧ (∀ x ∈ l, 0 ≤ x ∧ x ≤ 255) ∧ (0 < n → Low A g)
/-- What a step that takes choices leaves: only block g and new blocks are others. -/
def CurPost (g b : Nat) (w : World) (P : Value → World → Prop) (e : Ending) (w' : World) : Prop := ∃ v : Value, e = .returned v ∧ P v w' ∧ Cur w' g b ∧ w.grownBy w' (some g)
def IntIn (lo hi : Int) (v : Value) (w : World) : Prop := ∃ r : Int, v = .int .i64 r ∧ lo ≤ r ∧ r ≤ hi
theorem Cur.mono {w : World} {g b b' : Nat} (h : Cur w g b) (hb : b ≤ b') : Cur w g b' := by
  obtain ⟨A, n, c, i, s, l, h1, h2, h3, h4⟩ := h
  exact ⟨A, n, c, i, s, l, h1, h2, by omega, h4⟩
theorem Cur.lt {w : World} {g b : Nat} (h : Cur w g b) : g < w.heap.size := by
  obtain ⟨A, n, c, i, s, l, h1, _⟩ := h
  exact (h1.lt g rfl).2
theorem Cur.ext {w w' : World} {g b : Nat} (h : Cur w g b) (he : Ext w w') : Cur w' g b := by
  obtain ⟨A, n, c, i, s, l, h1, h2, h3, h4, h5, h6, h7⟩ := h
  exact ⟨A, n, c, i, s, l, he.own h1, h2, h3, h4, h5.ext he, h6, h7⟩
theorem grown_refl (w : World) (g : Option Nat) : w.grownBy w g := World.grownBy.refl w g
theorem grown_trans {a b c : World} {g : Option Nat} (h : a.grownBy b g) (k : b.grownBy c g) : a.grownBy c g :=
  ⟨k.os.trans h.os, k.tape.trans h.tape, k.output.trans h.output, Nat.le_trans h.size k.size, fun i hi hne => (k.block i (Nat.lt_of_lt_of_le hi h.size) hne).trans (h.block i hi hne)⟩
theorem grown_of_ext {a b : World} {g : Option Nat} (h : Ext a b) : a.grownBy b g := grown_ext (grown_refl a g) h
/-- Growth of a new block counts for nothing. -/
theorem grown_new {a b c : World} {g o : Option Nat} (h : a.grownBy b g) (k : b.grownBy c o) (ho : ∀ q, o = some q → a.heap.size ≤ q) : a.grownBy c g :=
  ⟨k.os.trans h.os, k.tape.trans h.tape, k.output.trans h.output, Nat.le_trans h.size k.size, fun i hi hne => (k.block i (Nat.lt_of_lt_of_le hi h.size) (fun e => by have := ho i e.symm; omega)).trans (h.block i hi hne)⟩
theorem Low.off {A : Option Addr} {g : Nat} (h : Low A g) : Off A g := fun b o s e => by have := h b o s e; omega
/-- A reading apart from the grown block goes on. -/
theorem Rd.grownO {w w' : World} {A : Option Addr} {n size : Nat} {cs : List Value} {o : Option Nat} (h : Rd w A n size cs) (hg : w.grownBy w' o) (ho : 0 < n → ∀ q, o = some q → Off A q) : Rd w' A n size cs := by
  refine ⟨h.1, fun hn => ?_⟩
  obtain ⟨b, off, e, hb, hc⟩ := h.2 hn
  refine ⟨b, off, e, Nat.lt_of_lt_of_le hb hg.size, fun j u hu => ?_⟩
  rw [World.cell?_of_block (hg.block b hb (fun e2 => ho hn b e2.symm b off none e rfl))]
  exact hc j u hu
theorem Rd.grown {w w' : World} {A : Option Addr} {n size g : Nat} {cs : List Value} (h : Rd w A n size cs) (hg : w.grownBy w' (some g)) (ho : Off A g) : Rd w' A n size cs :=
  h.grownO hg (fun _ q e => by injection e with e; subst e; exact ho)
theorem Cur.kept {w w' : World} {g b : Nat} {o : Option Nat} (h : Cur w g b) (hg : w.grownBy w' o) (ho : ∀ q, o = some q → g < q) : Cur w' g b := by
  obtain ⟨A, n, c, i, s, l, h1, h2, h3, h4, h5, h6, h7⟩ := h
  refine ⟨A, n, c, i, s, l, h1.kept hg ?_, h2, h3, h4, h5.grownO hg (fun hn q e b x s' e2 => by have := h7 hn b x s' e2; have := ho q e; omega), h6, h7⟩
  right
  intro e
  have := ho g e.symm
  omega
theorem Rd.byte {w : World} {A : Option Addr} {n k : Nat} {l : List Int} (h : Rd w A n 1 (bys l)) (hk : k < n) :
    ∃ b off x, A = some ⟨b, off, none⟩ ∧ b < w.heap.size ∧ x ∈ l ∧ w.cell? ⟨b, off + k, none⟩ = some (.int .u8 x) := by
  obtain ⟨b, off, e, hb, hc⟩ := h.2 (by omega)
  have hl : k < l.length := by have := h.1; simp [bys] at this; omega
  exact ⟨b, off, l[k], e, hb, List.getElem_mem hl, hc k _ (by simp [bys, List.getElem?_eq_getElem hl])⟩
theorem hg_block {w w' : World} {g b : Nat} (h : w.grownBy w' (some g)) (hlt : b < w.heap.size) (hne : b ≠ g) : w'.heap[b]? = w.heap[b]? := h.block b hlt (fun e => hne (by injection e))
theorem cell_keep {w w' : World} {g b o : Nat} {u : Value} (h : w.grownBy w' (some g)) (hne : b ≠ g) (hc : w.cell? ⟨b, o, none⟩ = some u) : w'.cell? ⟨b, o, none⟩ = some u := by
  have hlt : b < w.heap.size := World.block_lt_of_cell? w _ hc
  exact (World.cell?_of_block (hg_block h hlt hne)).trans hc
theorem frz_keep {w w' : World} {g b o : Nat} (h : w.grownBy w' (some g)) (hne : b ≠ g) (hlt : b < w.heap.size) (hc : w.frozen? ⟨b, o, none⟩ = false) : w'.frozen? ⟨b, o, none⟩ = false :=
  (World.frozen?_of_block (hg_block h hlt hne)).trans hc
def PickIn (k : Int) (v : Value) (w : World) : Prop := ∃ r : Int, v = .int .i64 r ∧ 0 ≤ r ∧ (r < k ∨ r = 0)
def BoolIn (v : Value) (w : World) : Prop := ∃ r : Bool, v = .bool r
/-- The bytes that a statement draws from. -/
structure CodeOk (w : World) (A : Option Addr) (n : Nat) (l : List Int) : Prop where
  small : n ≤ maxLen
  rd : Rd w A n 1 (bys l)
  bd : ∀ x ∈ l, 0 ≤ x ∧ x ≤ 255
theorem CodeOk.ext {w w' : World} {A : Option Addr} {n : Nat} {l : List Int} (h : CodeOk w A n l) (he : Ext w w') : CodeOk w' A n l := ⟨h.small, h.rd.ext he, h.bd⟩
/-- The cursor at the beginning. -/
theorem CodeOk.cur {w : World} {A : Option Addr} {n : Nat} {l : List Int} (h : CodeOk w A n l) (c : Nat) : Cur (w.alloc (.cells #[.slice A n c, .int .i64 0, .int .u64 0] 63)) w.heap.size 0 := by
  refine ⟨A, n, c, 0, 0, l, ?_, Int.le_refl _, Int.le_refl _, h.small, h.rd.ext ((Ext.refl w).alloc _), h.bd, fun hn b o s e => ?_⟩
  · exact ⟨by simp, .inr ⟨w.heap.size, 1, #[.slice A n c, .int .i64 0, .int .u64 0], rfl, Nat.le_refl _, heap_alloc_new w _, Nat.le_refl _, by unfold maxLen; omega, by simp, by simp⟩⟩
  · obtain ⟨b', o', e', hb, _⟩ := h.rd.2 hn
    rw [e] at e'
    injection e' with e'
    injection e' with e1
    omega
/-- All that a draw changes is new. -/
theorem ext_of_cur {w w' : World} {o : Obj} (h : (w.alloc o).grownBy w' (some w.heap.size)) : Ext w w' := ((Ext.refl w).alloc o).row h (Nat.le_refl _)
/-- A list that is being built while choices are taken: the cursor, the list's row, and that nothing else of what was there has changed. -/
structure DSt (w0 : World) (g b T size : Nat) (A : Option Addr) (n c : Nat) (cs : List Value) (w : World) : Prop where
  cur : Cur w g b
  row : w.ownsRow w0.heap.size T size (.slice A n c) n cs
  grown : w0.grownBy w (some g)
  hg : g < w0.heap.size
section
variable {w0 w w' : World} {g b T size n c : Nat} {A : Option Addr} {cs : List Value}
theorem DSt.step (h : DSt w0 g b T size A n c cs w) (he : Ext w w') : DSt w0 g b T size A n c cs w' := ⟨h.cur.ext he, he.own h.row, grown_trans h.grown (grown_of_ext he), h.hg⟩
theorem DSt.draw (h : DSt w0 g b T size A n c cs w) {b' : Nat} (hc : Cur w' g b') (hg : w.grownBy w' (some g)) : DSt w0 g b' T size A n c cs w' := by
  refine ⟨hc, h.row.kept hg ?_, grown_trans h.grown hg, h.hg⟩
  rcases hv : Value.ownBlock (.slice A n c) with _ | q
  · exact .inl rfl
  · right
    intro e
    have h1 := (h.row.lt q hv).1
    have h2 := h.hg
    injection e with e
    omega
theorem DSt.app (h : DSt w0 g b T size A n c cs w) {A' : Option Addr} {m c' : Nat} {cs' : List Value} (hr : w'.ownsRow w0.heap.size T size (.slice A' m c') m cs') (hg : w.grownBy w' (Value.ownBlock (.slice A n c))) : DSt w0 g b T size A' m c' cs' w' :=
  ⟨h.cur.kept hg (fun q hq => by have := (h.row.lt q hq).1; have := h.hg; omega), hr, grown_new h.grown hg (fun q hq => (h.row.lt q hq).1), h.hg⟩
theorem DSt.mono (h : DSt w0 g b T size A n c cs w) {b' : Nat} (hb : b ≤ b') : DSt w0 g b' T size A n c cs w := ⟨h.cur.mono hb, h.row, h.grown, h.hg⟩
theorem DSt.sz_le (h : DSt w0 g b T size A n c cs w) : w0.heap.size ≤ w.heap.size := h.grown.size
theorem DSt.off (h : DSt w0 g b T size A n c cs w) : Off A g := fun b x s e => by
  subst e
  have := (h.row.lt b rfl).1
  have := h.hg
  omega
end

theorem u64_wrap_bd (z : Int) : 0 ≤ IntKind.u64.wrap z ∧ IntKind.u64.wrap z < 18446744073709551616 := by
  rw [IntKind.wrap_u64]; omega
theorem byte_and {z : Int} (h : 0 ≤ z ∧ z < 18446744073709551616) : 0 ≤ wrap64 (bits BinOp.and IntKind.u64 (z / 1099511627776) 255) ∧ wrap64 (bits BinOp.and IntKind.u64 (z / 1099511627776) 255) ≤ 255 := by
  obtain ⟨a, ha⟩ : ∃ a : Nat, z / 1099511627776 = a := ⟨(z / 1099511627776).toNat, by omega⟩
  have h1 := bits_and_u64_nat a 255 (by omega) (by omega)
  have h2 : a &&& 255 ≤ 255 := Nat.and_le_right
  rw [ha, show (255 : Int) = ((255 : Nat) : Int) from rfl, h1]
  unfold wrap64
  omega
set_option maxRecDepth 100000 in
set_option maxHeartbeats 1000000 in
theorem next_any (g b : Nat) (w : World) (h : Cur w g b) (hb : b ≤ 1000000000) :
    Calls Try.prog 50 #[.pointer (some ⟨g, 0, none⟩)] w (CurPost g (b + 1) w (IntIn 0 255)) := by
  obtain ⟨A, n, c, i, s, l, h1, h2, h3, h4, h5, h6, h7⟩ := h
  unfold maxLen at h4
  obtain ⟨i, rfl⟩ : ∃ k : Nat, i = k := ⟨i.toNat, by omega⟩
  have g0 := own_at (j := 0) h1 rfl
  have g1 := own_at (j := 1) h1 rfl
  have g2 := own_at (j := 2) h1 rfl
  have hlt := (h1.lt g rfl).2
  have HO := Lib.hid h1
  have H5 := Lib.hid h5
  have H6 := Lib.hid h6
  clear h1
  by_cases hin : i < n
  · obtain ⟨bb, off, x, rfl, hbb, hx, gx⟩ := h5.byte hin
    have hxb := h6 x hx
    have hne : bb ≠ g := Nat.ne_of_lt (h7 (by omega) bb off none rfl)
    have hd : decide ((i : Int) < n) = true := by simp; omega
    clear h6 hx h5
    go_enter Try.func50, Try.ntmps50
    go_wp2
    (refine wp_region_ext_lit (by kernel_rfl) (by kernel_rfl) ?_; (repeat (go_big_quiet_step ((fail)))); refine wpQuiet_nil ?_; rintro wq ⟨⟨_, heq⟩, rfl⟩; (try dsimp only))
    have k0 := heq.cell1 g0
    have k1 := heq.cell1 g1
    have kx := heq.cell1 gx
    have kg : g < wq.heap.size := World.block_lt_of_cell? wq _ k0
    have kb : bb < wq.heap.size := World.block_lt_of_cell? wq _ kx
    have H1 := Lib.hid heq
    clear g0 g1 gx heq
    go_wp2
    (refine wp_region_ext_lit (by kernel_rfl) (by kernel_rfl) ?_; (repeat (go_big_quiet_step ((fail)))); refine wpQuiet_nil ?_; rintro wq ⟨⟨_, heq⟩, rfl⟩; (try dsimp only))
    have HQ := Lib.hid ((H1.out.trans heq).own HO.out)
    have E2 := Lib.hid (H1.out.trans heq)
    have m1 := own_at HQ.out (j := 1) rfl
    have m2 := own_at HQ.out (j := 2) rfl
    have n1 := HQ.out.frozenAt 1
    have n2 := HQ.out.frozenAt 2
    have mg : g < wq.heap.size := World.block_lt_of_cell? wq _ m1
    clear k0 k1 kx kg kb heq g2 hlt
    go_wp2
    have s1 := HQ.out.stored 1 (.int .i64 ((i : Int) + 1))
    have s2 := s1.1.stored 2 (.int .u64 (IntKind.u64.wrap (IntKind.u64.wrap (IntKind.u64.wrap (s * 6364136223846793005) + x) + 381907)))
    have GQ := Lib.hid (grown_trans (grown_of_ext (g := some g) E2.out) (grown_trans s1.2 s2.2))
    have R2 := Lib.hid s2.1
    clear s1 s2 m1 m2 n1 n2 mg
    simp only [List.set_cons_succ, List.set_cons_zero] at R2
    have hsd := u64_wrap_bd (IntKind.u64.wrap (IntKind.u64.wrap (s * 6364136223846793005) + x) + 381907)
    generalize IntKind.u64.wrap (IntKind.u64.wrap (IntKind.u64.wrap (s * 6364136223846793005) + x) + 381907) = sd at *
    generalize (wq.setCell ⟨g, 1, none⟩ (.int .i64 ((i : Int) + 1))).setCell ⟨g, 2, none⟩ (.int .u64 sd) = W2 at *
    have p0 := own_at R2.out (j := 0) rfl
    have p1 := own_at R2.out (j := 1) rfl
    have p2 := own_at R2.out (j := 2) rfl
    have pg : g < W2.heap.size := World.block_lt_of_cell? W2 _ p0
    have hd2 : decide ((i : Int) + 1 ≤ n) = true := by simp; omega
    (refine wp_region_ext_lit (by kernel_rfl) (by kernel_rfl) ?_; (repeat (go_big_quiet_step ((fail)))); refine wpQuiet_nil ?_; rintro wq ⟨⟨_, heq⟩, rfl⟩; (try dsimp only))
    have HC := Lib.hid (show Cur wq g (b + 1) from ⟨some ⟨bb, off, none⟩, n, c, (i : Int) + 1, sd, l, heq.own R2.out, by omega, by omega, by unfold maxLen; omega, (H5.out.grownO GQ.out (fun hn q e => by injection e with e; subst e; exact (h7 hn).off)).ext heq, H6.out, h7⟩)
    have HG := Lib.hid (grown_trans GQ.out (grown_of_ext (g := some g) heq))
    go_wp2
    go_ret
    exact ⟨_, rfl, ⟨x, rfl, hxb.1, hxb.2⟩, HC.out, HG.out⟩
  · have hd : decide ((i : Int) < n) = false := by simp; omega
    clear h5 h6
    go_enter Try.func50, Try.ntmps50
    go_wp2
    (refine wp_region_ext_lit (by kernel_rfl) (by kernel_rfl) ?_; (repeat (go_big_quiet_step ((fail)))); refine wpQuiet_nil ?_; rintro wq ⟨⟨_, heq⟩, rfl⟩; (try dsimp only))
    have HQ := Lib.hid (heq.own HO.out)
    have E2 := Lib.hid heq
    have m1 := own_at HQ.out (j := 1) rfl
    have m2 := own_at HQ.out (j := 2) rfl
    have n1 := HQ.out.frozenAt 1
    have n2 := HQ.out.frozenAt 2
    have mg : g < wq.heap.size := World.block_lt_of_cell? wq _ m1
    clear g0 g1 g2 heq hlt
    go_wp2
    have s1 := HQ.out.stored 1 (.int .i64 ((i : Int) + 1))
    have s2 := s1.1.stored 2 (.int .u64 (IntKind.u64.wrap (IntKind.u64.wrap (IntKind.u64.wrap (s * 6364136223846793005)) + 381907)))
    have GQ := Lib.hid (grown_trans (grown_of_ext (g := some g) E2.out) (grown_trans s1.2 s2.2))
    have R2 := Lib.hid s2.1
    clear s1 s2 m1 m2 n1 n2 mg
    simp only [List.set_cons_succ, List.set_cons_zero] at R2
    have hsd := u64_wrap_bd (IntKind.u64.wrap (IntKind.u64.wrap (s * 6364136223846793005)) + 381907)
    generalize IntKind.u64.wrap (IntKind.u64.wrap (IntKind.u64.wrap (s * 6364136223846793005)) + 381907) = sd at *
    generalize (wq.setCell ⟨g, 1, none⟩ (.int .i64 ((i : Int) + 1))).setCell ⟨g, 2, none⟩ (.int .u64 sd) = W2 at *
    have p0 := own_at R2.out (j := 0) rfl
    have p1 := own_at R2.out (j := 1) rfl
    have p2 := own_at R2.out (j := 2) rfl
    have pg : g < W2.heap.size := World.block_lt_of_cell? W2 _ p0
    have hd2 : decide ((i : Int) + 1 ≤ n) = false := by simp; omega
    (refine wp_region_ext_lit (by kernel_rfl) (by kernel_rfl) ?_; (repeat (go_big_quiet_step ((fail)))); refine wpQuiet_nil ?_; rintro wq ⟨⟨_, heq⟩, rfl⟩; (try dsimp only))
    have HC := Lib.hid (show Cur wq g (b + 1) from ⟨A, n, c, (i : Int) + 1, sd, l, heq.own R2.out, by omega, by omega, by unfold maxLen; omega, (H5.out.grownO GQ.out (fun hn q e => by injection e with e; subst e; exact (h7 hn).off)).ext heq, H6.out, h7⟩)
    have HG := Lib.hid (grown_trans GQ.out (grown_of_ext (g := some g) heq))
    have q2 := own_at (heq.own R2.out) (j := 2) rfl
    have qg : g < wq.heap.size := World.block_lt_of_cell? wq _ q2
    have hba := byte_and hsd
    have HBA := Lib.hid hba
    clear p0 p1 p2 pg heq hsd hba
    go_wp2
    go_ret
    exact ⟨_, rfl, ⟨_, rfl, HBA.out.1, HBA.out.2⟩, HC.out, HG.out⟩

set_option maxRecDepth 100000 in
set_option maxHeartbeats 1000000 in
theorem pick_any (g b : Nat) (k : Int) (w : World) (h : Cur w g b) (hb : b ≤ 999999990) (hk : k ≤ 100000) :
    Calls Try.prog 31 #[.pointer (some ⟨g, 0, none⟩), .int .i64 k] w (CurPost g (b + 2) w (PickIn k)) := by
  by_cases h1 : k ≤ 1
  · have hd : decide (k ≤ 1) = true := by simpa using h1
    go_enter Try.func31, Try.ntmps31
    go_wp2
    go_ret
    exact ⟨_, rfl, ⟨0, rfl, by omega, .inr rfl⟩, h.mono (by omega), grown_refl _ _⟩
  · have hd : decide (k ≤ 1) = false := by simpa using h1
    obtain ⟨k, rfl⟩ : ∃ q : Nat, k = q := ⟨k.toNat, by omega⟩
    by_cases h2 : 200 < (k : Int)
    · have hd2 : decide (200 < (k : Int)) = true := by simpa using h2
      go_enter Try.func31, Try.ntmps31
      go_wp2_with fail
      refine (next_any g b _ h (by omega)).mono ?_
      rintro e w1 ⟨v, rfl, ⟨r, rfl, r1, r2⟩, c1, g1⟩
      go_wp2_with fail
      refine (next_any g (b + 1) _ c1 (by omega)).mono ?_
      rintro e w2 ⟨v, rfl, ⟨s, rfl, s1, s2⟩, c2, g2⟩
      go_wp2
      go_ret
      exact ⟨_, rfl, ⟨(r * 256 + s) % k, rfl, Int.emod_nonneg _ (by omega), .inl (Int.emod_lt_of_pos _ (by omega))⟩, c2, grown_trans g1 g2⟩
    · have hd2 : decide (200 < (k : Int)) = false := by simpa using h2
      go_enter Try.func31, Try.ntmps31
      go_wp2_with fail
      refine (next_any g b _ h (by omega)).mono ?_
      rintro e w1 ⟨v, rfl, ⟨r, rfl, r1, r2⟩, c1, g1⟩
      go_wp2
      go_ret
      exact ⟨_, rfl, ⟨r % k, rfl, Int.emod_nonneg _ (by omega), .inl (Int.emod_lt_of_pos _ (by omega))⟩, c1.mono (by omega), g1⟩


set_option maxRecDepth 100000 in
set_option maxHeartbeats 1000000 in
theorem among_any (g b : Nat) (A : Option Addr) (n c : Nat) (l : List Int) (lo hi : Int) (w : World) (h : Cur w g b) (hl : ∀ x ∈ l, lo ≤ x ∧ x ≤ hi) (hb : b ≤ 999999990) (hn : 0 < n) (hn2 : n ≤ 100000) (hr : Rd w A n 1 (ints l)) (ho : Off A g) :
    Calls Try.prog 49 #[.pointer (some ⟨g, 0, none⟩), .slice A n c] w (CurPost g (b + 2) w (IntIn lo hi)) := by
  have HL := Lib.hid hl
  clear hl
  go_enter Try.func49, Try.ntmps49
  go_wp2_with fail
  refine (pick_any g b n _ h hb (by omega)).mono ?_
  rintro e w1 ⟨v, rfl, ⟨r, rfl, r0, r1⟩, c1, g1⟩
  obtain ⟨r, rfl⟩ : ∃ q : Nat, r = q := ⟨r.toNat, by omega⟩
  have hrn : r < n := by omega
  have hrn2 : (r : Int) < n := by omega
  obtain ⟨bb, off, x, rfl, hbb, hx, gx⟩ := (hr.grown g1 ho).int hrn
  go_wp2
  go_ret
  have hx2 := HL.out x (List.mem_of_getElem? hx.out)
  exact ⟨_, rfl, ⟨x, rfl, hx2.1, hx2.2⟩, c1, g1⟩
theorem litRd (w : World) (l : List Int) (T : TypeId) : Rd (w.alloc (.cells (ints l).toArray T)) (some ⟨w.heap.size, 0, none⟩) l.length 1 (ints l) := by
  refine ⟨by simp [ints], fun _ => ⟨w.heap.size, 0, rfl, by simp, fun j u hu => ?_⟩⟩
  rw [Nat.zero_add, cell_of_row _ _ _ _ _ _ (heap_alloc_new w _)]
  simpa using hu
/-- A choice of a list that is written out. -/
theorem among_lit (g b : Nat) (l : List Int) (lo hi : Int) (w : World) (T : TypeId) (h : Cur w g b) (hl : ∀ x ∈ l, lo ≤ x ∧ x ≤ hi) (hb : b ≤ 999999990) (hn : 0 < l.length) (hn2 : l.length ≤ 100000) :
    Calls Try.prog 49 #[.pointer (some ⟨g, 0, none⟩), .slice (some ⟨w.heap.size, 0, none⟩) l.length l.length] (w.alloc (.cells (ints l).toArray T)) (CurPost g (b + 2) w (IntIn lo hi)) := by
  have hne : w.heap.size ≠ g := by have := h.lt; omega
  refine (among_any g b _ _ _ l lo hi _ (h.ext ((Ext.refl _).alloc _)) hl hb hn hn2 (litRd w l T) (Off.ne hne)).mono ?_
  rintro e w1 ⟨v, rfl, h1, c1, g1⟩
  exact ⟨v, rfl, h1, c1, grown_trans (grown_of_ext ((Ext.refl _).alloc _)) g1⟩
theorem among_at (g b gl : Nat) (l : List Int) (lo hi : Int) (w : World) (T : TypeId) (h : Cur w g b) (hgl : w.heap.size = gl) (hl : ∀ x ∈ l, lo ≤ x ∧ x ≤ hi) (hb : b ≤ 999999990) (hn : 0 < l.length) (hn2 : l.length ≤ 100000) :
    Calls Try.prog 49 #[.pointer (some ⟨g, 0, none⟩), .slice (some ⟨gl, 0, none⟩) l.length l.length] (w.alloc (.cells (ints l).toArray T)) (CurPost g (b + 2) w (IntIn lo hi)) := by
  subst hgl
  exact among_lit g b l lo hi w T h hl hb hn hn2
end Go.Proofs.Ytekggbmpogmlcaa

namespace Go.Proofs.Ytekggbmpogmlcaa
open Go.RowKit
set_option linter.unusedVariables false
set_option linter.unusedSimpArgs false
attribute [local go_sem] ExtOf.cell

set_option maxHeartbeats 400000 in
theorem vBig_any (A : Option Addr) (n c : Nat) (w : World) (hm : n ≤ maxLen) :
    Calls Try.prog 4 #[.slice A n c] w fun e w' => e = .returned (.bool (decide (65536 < (n : Int)))) ∧ w = w' := by
  unfold maxLen at hm
  go_enter Try.func4, Try.ntmps4
  go_wp2
  go_ret
  exact ⟨ret_bool (by simp), rfl⟩
set_option maxHeartbeats 400000 in
theorem vInts_same (A A' : Option Addr) (n c c' : Nat) (l : List Int) (w : World) (hm : n ≤ 1048576) (hr : Rd w A n 1 (ints l)) (hr' : Rd w A' n 1 (ints l)) :
    Calls Try.prog 8 #[.slice A n c, .slice A' n c'] w fun e w' => e = .returned (.bool true) ∧ Ext w w' := by
  go_enter Try.func8, Try.ntmps8
  go_wp2
  go_loopw [5] (fun i wr => ∃ k : Nat, k ≤ n ∧ i = .int .i64 k ∧ Ext w wr) (fun i _ => n - (intOf i).toNat)
  case atStart => exact ⟨0, Nat.zero_le _, rfl, Ext.refl _⟩
  case round =>
    obtain ⟨k, hk, rfl, he⟩ := hrel
    by_cases hlt : k < n
    · obtain ⟨b, off, x, rfl, hb, hx, g0⟩ := (hr.ext he).int hlt
      obtain ⟨b', off', y, rfl, hb', hy, q0⟩ := (hr'.ext he).int hlt
      obtain rfl : x = y := by have := hx.out.symm.trans hy.out; injection this
      clear hr hr'
      go_wp2
      (refine wp_region_ext_lit (by kernel_rfl) (by kernel_rfl) ?_; (repeat (go_big_quiet_step ((fail)))); refine wpQuiet_nil ?_; rintro wq ⟨⟨_, heq⟩, rfl⟩; (try dsimp only))
      go_wp2
      go_roundw
      case rel => exact ⟨k + 1, by omega, by go_num, he.trans heq⟩
      case measure => simp [intOf]; omega
    · obtain rfl : k = n := by omega
      go_wp2
      go_ret
      exact ⟨rfl, he⟩
end Go.Proofs.Ytekggbmpogmlcaa

namespace Go.Proofs.Ytekggbmpogmlcaa
open Go.ChangeShapes Go.WideShapes Go.RowKit Go.Deep
set_option linter.unusedVariables false
set_option linter.unusedSimpArgs false
theorem bys_flat (l : List Int) : bys l = l.flatMap (fun v => [Value.int .u8 v]) := by
  induction l with
  | nil => rfl
  | cons a l ih => simp only [bys, List.map_cons, List.flatMap_cons] at *; rw [ih]; rfl
section
variable {H : Type} {enc : TypeId × Value → H} {P : Program} {w : World} {base : Nat} {spare : Nat → Bool} {held : Bool}
theorem trod_bytes {t e : TypeId} {fuel : Nat} {u : Value} {y : DataW H × List MemPlace} (ht : P.underlying t = some (.slice e)) (he : P.underlying e = some (.int .u8)) (hC : P.cellsOf e = 1)
    (hf' : DataW.trod enc P w base spare held fuel t [u] = some y) :
    ∃ (A : Option Addr) (n c : Nat) (xs : List Int), u = .slice A n c ∧ n ≤ c ∧ c ≤ maxLen ∧ xs.length = n ∧ (∀ x ∈ xs, (Lit.int .u8 x).wf = true) ∧ Rd w A n 1 (bys xs) := by
  rcases open_slice ht hf' with ⟨hcs, _⟩ | ⟨a, n, c, m, n', D, Pl, hcs, hb, hl, hm, hmm, hx, hi⟩
  · simp at hcs
    exact ⟨none, 0, 0, [], hcs, Nat.le_refl _, Nat.zero_le _, rfl, by simp, Rd.nil _ _ _⟩
  · simp at hcs
    obtain ⟨xs, h1, h2, h3⟩ := rd_of (w := w) (a := a) (n := n) (f := fun v => [Value.int .u8 v]) (G := fun x => (Lit.int .u8 x).wf = true) (by decide : 0 < 1) (fun _ => rfl) (fun i hi' => by
      obtain ⟨cs', hc, ht'⟩ := hi i (by rw [hmm]; split <;> omega)
      rw [hC] at hc
      obtain ⟨_, hcl, hat⟩ := World.cells?_some hc
      obtain ⟨u, rfl⟩ : ∃ u, cs' = [u] := by
        match cs', hcl with
        | [u], _ => exact ⟨u, rfl⟩
      obtain ⟨x, rfl, hw⟩ := trod_u8 he ht'
      refine ⟨x, hw, fun j u hu => ?_⟩
      have hj : j < 1 := (List.getElem?_eq_some_iff.1 hu).1
      have := hat j hj
      rw [hu] at this
      rw [← Go.Deep.add_add]
      exact this)
    exact ⟨some a, n, c, xs, hcs, hl, hm, h1, h2, by rw [bys_flat]; exact h3⟩
theorem open_bytesP {r : Reach} {b0 : Nat} {t e : TypeId} {v : Value} {d : DataW H} {p : List MemPlace} (ht : P.underlying t = some (.slice e)) (he : P.underlying e = some (.int .u8)) (hC : P.cellsOf e = 1)
    (hv : Value.okWide P w r b0 t v) (h : DataW.Trod enc P w base spare held t v d p) :
    ∃ (A : Option Addr) (n c : Nat) (xs : List Int), v = .slice A n c ∧ n ≤ c ∧ c ≤ maxLen ∧ xs.length = n ∧ (∀ x ∈ xs, (Lit.int .u8 x).wf = true) ∧ Rd w A n 1 (bys xs) := by
  obtain ⟨A, n, c, rfl⟩ := okWide_slice ht hv
  obtain ⟨fuel, hf'⟩ := h
  exact trod_bytes ht he hC hf'
set_option maxRecDepth 100000 in
theorem open_bytes {r : Reach} {b0 : Nat} {v : Value} {d : DataW H} {p : List MemPlace} (hv : Value.okWide Try.prog w r b0 22 v) (h : DataW.Trod enc Try.prog w base spare held 22 v d p) :
    ∃ (A : Option Addr) (n c : Nat) (xs : List Int), v = .slice A n c ∧ n ≤ c ∧ c ≤ maxLen ∧ xs.length = n ∧ (∀ x ∈ xs, (Lit.int .u8 x).wf = true) ∧ Rd w A n 1 (bys xs) :=
  open_bytesP Try.underlying22 Try.underlying5 (by kernel_rfl) hv h
theorem codeOk {A : Option Addr} {n c : Nat} {l : List Int} (h1 : n ≤ c) (h2 : c ≤ maxLen) (h3 : ∀ x ∈ l, (Lit.int .u8 x).wf = true) (h4 : Rd w A n 1 (bys l)) : CodeOk w A n l :=
  ⟨Nat.le_trans h1 h2, h4, fun x hx => bounds_u8 (h3 x hx)⟩
end
end Go.Proofs.Ytekggbmpogmlcaa

namespace Go.Proofs.Ytekggbmpogmlcaa
open Go.RowKit
set_option linter.unusedVariables false
set_option linter.unusedSimpArgs false
attribute [local go_sem] ExtOf.cell

theorem tabInt : (27 : Nat) ≠ 3 := by decide
theorem banInt : (42 : Nat) ≠ 3 := by decide
theorem ints_snoc (l : List Int) (x : Int) : ints l ++ [.int .i64 x] = ints (l ++ [x]) := by simp [ints]
theorem one_intc (x : Int) : ∀ u ∈ [Value.int .i64 x], u.oneCell' = true := fun u hu => by
  simp only [List.mem_singleton] at hu; subst hu; rfl
theorem one_int (w : World) (x : Int) (p j : Nat) {u : Value} (hp : p = w.heap.size) (h : ([.int .i64 x] : List Value)[j]? = some u) : (w.alloc (.cells #[.int .i64 x] 3)).cell? ⟨p, j, none⟩ = some u := by
  subst hp
  exact own_at (own_block w 3 [.int .i64 x]) h
theorem own_cur {w0 w : World} {T size n g : Nat} {v : Value} {cs : List Value} (h : w.ownsRow w0.heap.size T size v n cs) (hg : g < w0.heap.size) : v.ownBlock = none ∨ v.ownBlock ≠ some g := by
  rcases hv : v.ownBlock with _ | q
  · exact .inl rfl
  · right
    intro e
    have h1 := (h.lt q hv).1
    injection e with e
    omega
def smallI (a : Int) : Prop := -100000 ≤ a ∧ a ≤ 100000
theorem smI (a : Int) (h1 : -100000 ≤ a) (h2 : a ≤ 100000) : smallI a := ⟨h1, h2⟩
theorem wf_i64 {a : Int} (h : smallI a) : (Lit.int .i64 a).wf = true := by
  have e1 : IntKind.i64.min = -9223372036854775808 := rfl
  have e2 : IntKind.i64.max = 9223372036854775807 := rfl
  unfold smallI at h
  simp [Lit.wf, e1, e2]; omega
def BanSm (x : Ban) : Prop := smallI x.A ∧ smallI x.X ∧ smallI x.B ∧ smallI x.Y
theorem BanSm.wf {x : Ban} (h : BanSm x) : x.Wf := ⟨wf_i64 h.1, wf_i64 h.2.1, wf_i64 h.2.2.1, wf_i64 h.2.2.2⟩
/-- A table that is being drawn: its box, its two rows, the cursor. -/
structure KSt (w0 : World) (g b gt : Nat) (A : Option Addr) (n c : Nat) (B : Option Addr) (m d : Nat) (ss : List Int) (bs : List Ban) (w : World) : Prop where
  cur : Cur w g b
  box : w.ownsRow w0.heap.size 27 2 (.slice (some ⟨gt, 0, none⟩) 1 1) 1 [.slice A n c, .slice B m d]
  rs : w.ownsRow w0.heap.size 3 1 (.slice A n c) n (ints ss)
  rb : w.ownsRow w0.heap.size 42 4 (.slice B m d) m (bs.flatMap Ban.cs)
  grown : w0.grownBy w (some g)
  hg : g < w0.heap.size
  hgt : w0.heap.size < gt
  res : w.ownsRow w0.heap.size 27 2 (.slice (some ⟨w0.heap.size, 0, none⟩) 1 1) 1 [.slice none 0 0, .slice none 0 0]
section
variable {w0 w w' : World} {g b gt n c m d : Nat} {A B : Option Addr} {ss : List Int} {bs : List Ban}
theorem KSt.step (h : KSt w0 g b gt A n c B m d ss bs w) (he : Ext w w') : KSt w0 g b gt A n c B m d ss bs w' :=
  ⟨h.cur.ext he, he.own h.box, he.own h.rs, he.own h.rb, grown_trans h.grown (grown_of_ext he), h.hg, h.hgt, he.own h.res⟩
theorem KSt.draw (h : KSt w0 g b gt A n c B m d ss bs w) {b' : Nat} (hc : Cur w' g b') (hg : w.grownBy w' (some g)) : KSt w0 g b' gt A n c B m d ss bs w' :=
  ⟨hc, h.box.kept hg (own_cur h.box h.hg), h.rs.kept hg (own_cur h.rs h.hg), h.rb.kept hg (own_cur h.rb h.hg), grown_trans h.grown hg, h.hg, h.hgt, h.res.kept hg (own_cur h.res h.hg)⟩
theorem KSt.mono (h : KSt w0 g b gt A n c B m d ss bs w) {b' : Nat} (hb : b ≤ b') : KSt w0 g b' gt A n c B m d ss bs w := ⟨h.cur.mono hb, h.box, h.rs, h.rb, h.grown, h.hg, h.hgt, h.res⟩
/-- The sizes have grown, and the box holds them. -/
theorem KSt.sized (h : KSt w0 g b gt A n c B m d ss bs w) {A' : Option Addr} {n' c' : Nat} {ss' : List Int} (hr : w'.ownsRow w0.heap.size 3 1 (.slice A' n' c') n' (ints ss')) (hg : w.grownBy w' (Value.ownBlock (.slice A n c))) :
    KSt w0 g b gt A' n' c' B m d ss' bs (w'.setCell ⟨gt, 0, none⟩ (.slice A' n' c')) := by
  have hb := h.box.kept hg (own_types h.box h.rs tabInt)
  have hs := hb.stored 0 (.slice A' n' c')
  have hq : w0.heap.size ≤ gt := (h.box.lt gt rfl).1
  refine ⟨(h.cur.kept hg (fun q hq => ?_)).kept hs.2 (fun q hq => ?_), ?_, hr.kept hs.2 (own_types hr hb (fun e => tabInt e.symm)), (h.rb.kept hg (own_types h.rb h.rs banInt)).kept hs.2 (own_types (h.rb.kept hg (own_types h.rb h.rs banInt)) hb banTab), ?_, h.hg, h.hgt, (h.res.kept hg (own_types h.res h.rs tabInt)).kept hs.2 (.inr (by simp only [Value.ownBlock]; intro e; injection e with e; have := h.hgt; omega))⟩
  · have := (h.rs.lt q hq).1; have := h.hg; omega
  · have hq2 : some gt = some q := hq
    injection hq2 with hq2
    have := h.hg; omega
  · have := hs.1
    simpa using this
  · exact grown_new (grown_new h.grown hg (fun q hq => (h.rs.lt q hq).1)) hs.2 (fun q hq => by
      have hq2 : some gt = some q := hq
      injection hq2 with hq2
      omega)
theorem KSt.other (h : KSt w0 g b gt A n c B m d ss bs w) {q : Nat} {cs : List Value} (ho : w.ownsRow w0.heap.size 27 2 (.slice (some ⟨q, 0, none⟩) 1 1) 1 cs) (hne : gt ≠ q) (hnr : w0.heap.size ≠ q) (hg : w.grownBy w' (some q)) : KSt w0 g b gt A n c B m d ss bs w' := by
  have hq : w0.heap.size ≤ q := (ho.lt q rfl).1
  refine ⟨h.cur.kept hg (fun x hx => ?_), h.box.kept hg (.inr ?_), h.rs.kept hg (own_types h.rs ho (fun e => tabInt e.symm)), h.rb.kept hg (own_types h.rb ho banTab), grown_new h.grown hg (fun x hx => ?_), h.hg, h.hgt, h.res.kept hg (.inr (by simp only [Value.ownBlock]; intro e; injection e with e; exact hnr e))⟩
  · injection hx with hx
    have := h.hg; omega
  · simp only [Value.ownBlock]
    intro e; injection e with e; exact hne e
  · injection hx with hx
    omega
/-- The whole table is replaced. -/
theorem KSt.replaced (h : KSt w0 g b gt A n c B m d ss bs w) {A' B' : Option Addr} {n' c' m' d' : Nat} {ss' : List Int} {bs' : List Ban}
    (hr : w.ownsRow w0.heap.size 3 1 (.slice A' n' c') n' (ints ss')) (hb : w.ownsRow w0.heap.size 42 4 (.slice B' m' d') m' (bs'.flatMap Ban.cs))
    (ho : w'.ownsRow w0.heap.size 27 2 (.slice (some ⟨gt, 0, none⟩) 1 1) 1 [.slice A' n' c', .slice B' m' d']) (hg : w.grownBy w' (some gt)) : KSt w0 g b gt A' n' c' B' m' d' ss' bs' w' := by
  refine ⟨h.cur.kept hg (fun x hx => ?_), ho, hr.kept hg (own_types hr h.box (fun e => tabInt e.symm)), hb.kept hg (own_types hb h.box banTab), grown_new h.grown hg (fun x hx => ?_), h.hg, h.hgt, h.res.kept hg (.inr (by simp only [Value.ownBlock]; intro e; injection e with e; have := h.hgt; omega))⟩
  · injection hx with hx
    have := h.hg; have := h.hgt; omega
  · injection hx with hx
    have := h.hgt; omega
theorem KSt.tab (h : KSt w0 g b gt A n c B m d ss bs w) (hs : Hid (∀ x ∈ ss, 0 ≤ x ∧ x ≤ 6)) (hb : Hid (∀ x ∈ bs, BanSm x)) (hn : n ≤ 100) (hm : m ≤ 100) : TabL w A n B m ss bs := by
  have h1 := h.rs.1
  have h2 := h.rb.1
  rw [ints_length] at h1
  rw [flat_length Ban.cs 4 Ban.len] at h2
  exact ⟨by omega, by omega, fun x hx => wf_i64 (smI x (by have := hs.out x hx; omega) (by have := hs.out x hx; omega)), Rd.own h.rs, ⟨by omega, by omega, fun x hx => (hb.out x hx).wf, Rd.own h.rb⟩⟩
/-- The bans have grown, and the box holds them. -/
theorem KSt.banned (h : KSt w0 g b gt A n c B m d ss bs w) {B' : Option Addr} {m' d' : Nat} {bs' : List Ban} (hr : w'.ownsRow w0.heap.size 42 4 (.slice B' m' d') m' (bs'.flatMap Ban.cs)) (hg : w.grownBy w' (Value.ownBlock (.slice B m d))) :
    KSt w0 g b gt A n c B' m' d' ss bs' (w'.setCell ⟨gt, 1, none⟩ (.slice B' m' d')) := by
  have hb := h.box.kept hg (own_types h.box h.rb tabBan)
  have hs := hb.stored 1 (.slice B' m' d')
  have hq : w0.heap.size ≤ gt := (h.box.lt gt rfl).1
  have hrs := h.rs.kept hg (own_types h.rs h.rb (fun e => banInt e.symm))
  refine ⟨(h.cur.kept hg (fun q hq => ?_)).kept hs.2 (fun q hq => ?_), ?_, hrs.kept hs.2 (own_types hrs hb (fun e => tabInt e.symm)), hr.kept hs.2 (own_types hr hb banTab), ?_, h.hg, h.hgt, (h.res.kept hg (own_types h.res h.rb tabBan)).kept hs.2 (.inr (by simp only [Value.ownBlock]; intro e; injection e with e; have := h.hgt; omega))⟩
  · have := (h.rb.lt q hq).1; have := h.hg; omega
  · have hq2 : some gt = some q := hq
    injection hq2 with hq2
    have := h.hg; omega
  · have := hs.1
    simpa using this
  · exact grown_new (grown_new h.grown hg (fun q hq => (h.rb.lt q hq).1)) hs.2 (fun q hq => by
      have hq2 : some gt = some q := hq
      injection hq2 with hq2
      omega)
end
theorem own_le {w : World} {base T size n c : Nat} {A : Option Addr} {cs : List Value} (h : w.ownsRow base T size (.slice A n c) n cs) : n ≤ c := by
  rcases h.2 with ⟨h1, h2⟩ | ⟨g, cap, cur, h1, _, _, h4, _⟩
  · omega
  · injection h1 with _ _ e3; omega
/-- What is drawn: a table of small numbers, its rows its own. -/
def KTab (w : World) (v : Value) (w' : World) : Prop := ∃ (A : Option Addr) (n c : Nat) (B : Option Addr) (m d : Nat) (ss : List Int) (bs : List Ban), v = .agg #[.slice A n c, .slice B m d] ∧ n ≤ 6 ∧ m ≤ 6 ∧ Hid (∀ x ∈ ss, 0 ≤ x ∧ x ≤ 6) ∧ Hid (∀ x ∈ bs, BanSm x) ∧ (∃ q, A = some ⟨q, 0, none⟩) ∧ ((B = none ∧ bs = []) ∨ ∃ q, B = some ⟨q, 0, none⟩) ∧ w'.ownsRow w.heap.size 3 1 (.slice A n c) n (ints ss) ∧ w'.ownsRow w.heap.size 42 4 (.slice B m d) m (bs.flatMap Ban.cs)
def KFin (w0 : World) (g b gt : Nat) (w : World) : Prop := ∃ (A : Option Addr) (n c : Nat) (B : Option Addr) (m d : Nat) (ss : List Int) (bs : List Ban), n ≤ 6 ∧ m ≤ 6 ∧ Hid (∀ x ∈ ss, 0 ≤ x ∧ x ≤ 6) ∧ Hid (∀ x ∈ bs, BanSm x) ∧ (∃ q, A = some ⟨q, 0, none⟩) ∧ ((B = none ∧ bs = []) ∨ ∃ q, B = some ⟨q, 0, none⟩) ∧ KSt w0 g b gt A n c B m d ss bs w
theorem own_list (w : World) (T : TypeId) (l : List Int) (h : l.length ≤ maxLen := by decide) : (w.alloc (.cells (ints l).toArray T)).ownsRow w.heap.size T 1 (.slice (some ⟨w.heap.size, 0, none⟩) l.length l.length) l.length (ints l) :=
  ⟨by simp [ints], .inr ⟨w.heap.size, l.length, (ints l).toArray, rfl, Nat.le_refl _, heap_alloc_new w _, Nat.le_refl _, h, by simp [ints], by rw [Nat.mul_one, List.take_of_length_le (by simp [ints])]⟩⟩
theorem ban_one (x : Ban) : ∀ u ∈ x.cs, u.oneCell' = true := fun u hu => by
  simp only [Ban.cs, List.mem_cons, List.not_mem_nil, or_false] at hu
  rcases hu with rfl | rfl | rfl | rfl <;> rfl
theorem bans_snoc (bs : List Ban) (x : Ban) : bs.flatMap Ban.cs ++ x.cs = (bs ++ [x]).flatMap Ban.cs := by simp [List.flatMap_append]
set_option maxRecDepth 100000 in
set_option maxHeartbeats 8000000 in
theorem kindTable_any (g b : Nat) (w : World) (h : Cur w g b) (hb : b ≤ 100000) :
    Calls Try.prog 30 #[.pointer (some ⟨g, 0, none⟩)] w (CurPost g (b + 1000) w (fun v w' => KTab w v w')) := by
  obtain ⟨i0, hi0, hz0v, hzz1, hzz2⟩ := info_parts intInfo
  obtain ⟨i1, hj0, hy0v, hyy1, hyy2⟩ := info_parts infoBan
  have hgw := h.lt
  obtain ⟨w0, hw0⟩ : ∃ w0 : World, w0 = w := ⟨_, rfl⟩
  have K0 : KSt w g b (w.heap.size + 1 + 1 + 1) (some ⟨w.heap.size + 1, 0, none⟩) 0 0 (some ⟨w.heap.size + 1 + 1, 0, none⟩) 0 0 [] []
      ((((w.alloc (.cells #[.slice none 0 0, .slice none 0 0] 27)).alloc (.cells #[] 3)).alloc (.cells #[] 42)).alloc (.cells #[.slice (some ⟨w.heap.size + 1, 0, none⟩) 0 0, .slice (some ⟨w.heap.size + 1 + 1, 0, none⟩) 0 0] 27)) := by
    have e1 := own_empty (w.alloc (.cells #[.slice none 0 0, .slice none 0 0] 27)) w.heap.size 3 1 (by simp)
    have e2 := own_empty ((w.alloc (.cells #[.slice none 0 0, .slice none 0 0] 27)).alloc (.cells #[] 3)) w.heap.size 42 4 (by simp; omega)
    have e3 := own_low' (own_block (((w.alloc (.cells #[.slice none 0 0, .slice none 0 0] 27)).alloc (.cells #[] 3)).alloc (.cells #[] 42)) 27 [.slice (some ⟨w.heap.size + 1, 0, none⟩) 0 0, .slice (some ⟨w.heap.size + 1 + 1, 0, none⟩) 0 0]) (show w.heap.size ≤ _ by simp; omega)
    simp only [World.size_alloc] at e1 e2 e3
    exact ⟨h.ext (((((Ext.refl w).alloc _).alloc _).alloc _).alloc _), e3, (((Ext.refl _).alloc _).alloc _).own e1, ((Ext.refl _).alloc _).own e2, grown_of_ext (((((Ext.refl w).alloc _).alloc _).alloc _).alloc _), hgw, by omega, ((((Ext.refl _).alloc _).alloc _).alloc _).own (own_block w 27 [.slice none 0 0, .slice none 0 0])⟩
  have S0 := Lib.hid K0
  clear K0 hw0
  go_enter Try.func30, Try.ntmps30
  go_wp2_with fail
  refine (pick_any g _ 4 _ S0.out.cur (by omega) (by omega)).mono ?_
  rintro e w1 ⟨v, rfl, ⟨r, rfl, r0, r1⟩, C1, G1⟩
  have S1 := Lib.hid (S0.out.draw C1 G1)
  obtain ⟨r, rfl⟩ : ∃ q : Nat, r = q := ⟨r.toNat, by omega⟩
  have hr4 : r ≤ 3 := by omega
  clear C1 G1 S0 h
  obtain ⟨w0, rfl⟩ : ∃ w0 : World, w0 = w := ⟨_, rfl⟩
  generalize hgt : w0.heap.size + 1 + 1 + 1 = gt at *
  have hgt2 : g < gt := by omega
  clear hgt
  go_upto_block 0 with fail
  go_cut [4] (fun p W => ∃ (A : Option Addr) (n c : Nat) (ss : List Int), n ≤ 4 ∧ Hid (∀ x ∈ ss, 0 ≤ x ∧ x ≤ 6) ∧ (∃ q, A = some ⟨q, 0, none⟩) ∧ KSt w0 g (b + 10) gt A n c (some ⟨w0.heap.size + 1 + 1, 0, none⟩) 0 0 ss [] W)
  case first =>
    go_wp2_with fail
    go_loopw [4] (fun p wr => ∃ (k : Nat) (A : Option Addr) (n c : Nat) (ss : List Int), p = .int .i64 k ∧ k ≤ 4 ∧ n + k ≤ 4 ∧ Hid (∀ x ∈ ss, 0 ≤ x ∧ x ≤ 6) ∧ (∃ q, A = some ⟨q, 0, none⟩) ∧ KSt w0 g (b + 2 + 2 * (4 - k)) gt A n c (some ⟨w0.heap.size + 1 + 1, 0, none⟩) 0 0 ss [] wr) (fun p _ => (intOf p).toNat)
    case atStart => exact ⟨r + 1, _, 0, 0, [], by go_num, by omega, by omega, (fun x hx => by cases hx), ⟨_, rfl⟩, S1.out.mono (by omega)⟩
    case round =>
      obtain ⟨k, A, n, c, ss, rfl, hk, hnk, hss, ⟨q, rfl⟩, hst⟩ := hrel
      have N1 := Lib.hid hst
      clear hst S1
      by_cases hlt : 0 < k
      · have hkd : decide ((0 : Int) < (k : Int)) = true := by simp; omega
        generalize hA : (some ⟨q, 0, none⟩ : Option Addr) = A at *
        clear hA
        go_wp2
        refine wp_region_held_drew (S := fun _ => True) (by kernel_rfl) trivial (fun hHeld => ?_)
        have N2 := Lib.hid (N1.out.step (Ext.refl wr).drew)
        refine wpAnyH_take (i := 0) (v := ?_) rfl (by kernel_rfl) (by kernel_rfl) (by kernel_rfl) (fun _ _ _ h => h) (Or.inl ⟨by rfl, ?_⟩) trivial ?_; rotate_left 1; (focus (intro w hSw; go_simp; (try with_reducible rfl))); (try simp only [Act.put, List.setIfInBounds_toArray, List.set_cons_zero, List.set_cons_succ])
        refine wpAnyH_take (i := 2) (v := ?_) rfl (by kernel_rfl) (by kernel_rfl) (by kernel_rfl) (fun _ _ _ h => h) (Or.inl ⟨by rfl, ?_⟩) trivial ?_; rotate_left 1; (focus (intro w hSw; go_simp; (try with_reducible rfl))); (try simp only [Act.put, List.setIfInBounds_toArray, List.set_cons_zero, List.set_cons_succ])
        refine wpAnyH_ready (rs := [1, 3]) (by kernel_rfl) (by simp) ?_; refine AllReadyH.cons rfl (fun K hK => ?_) (AllReadyH.cons rfl (fun K hK => ?_) (AllReadyH.nil))
        focus
          have cx1 := own_at N2.out.box (j := 0) rfl
          have cz1 : gt < wr.heap.size := by have h9 := World.block_lt_of_cell? wr.drew _ cx1; (try simp only [World.size_alloc, World.size_drew] at h9); exact h9
          go_simp; (try simp only [Act.put, List.setIfInBounds_toArray, List.set_cons_zero, List.set_cons_succ]); (try go_wp2_with fail); refine hK.out _ _ trivial fun _ => ?_; clear hK K; (try simp only [Act.put, List.setIfInBounds_toArray, List.set_cons_zero, List.set_cons_succ])
          clear cx1 cz1
          refine wpAnyH_ready (rs := [3]) (by kernel_rfl) (by simp) ?_; refine AllReadyH.cons rfl (fun K hK => ?_) AllReadyH.nil; go_simp; (try simp only [Act.put, List.setIfInBounds_toArray, List.set_cons_zero, List.set_cons_succ]); (try go_wp2_with (go_at_call 31; refine (pick_any g _ 3 _ N2.out.cur (by omega) (by omega)).mono ?_; rintro e w2 ⟨v, rfl, ⟨r, rfl, r0, r1⟩, C2, G2⟩)); refine hK.out _ _ trivial fun _ => ?_; clear hK K; (try simp only [Act.put, List.setIfInBounds_toArray, List.set_cons_zero, List.set_cons_succ])
          have N2 := Lib.hid (N2.out.draw C2 G2)
          clear C2 G2
          have wu : IntKind.i64.wrap (1 + r) = 1 + r := IntWalk.i64_in _ (by omega)
          refine wpAnyH_take (i := 4) (v := ?_) rfl (by kernel_rfl) (by kernel_rfl) (by kernel_rfl) (fun _ _ _ h => h) (Or.inl ⟨by rfl, ?_⟩) trivial ?_; rotate_left 1; (focus (intro w hSw; go_simp; (try with_reducible rfl))); (try simp only [Act.put, List.setIfInBounds_toArray, List.set_cons_zero, List.set_cons_succ])
          have N3 := Lib.hid (N2.out.step ((Ext.refl (w2)).alloc (.cells #[.int .i64 (1 + r)] 3)))
          refine wpAnyH_ready (rs := [5]) (by kernel_rfl) (by simp) ?_; refine AllReadyH.cons rfl (fun K hK => ?_) AllReadyH.nil; go_simp; (try simp only [Act.put, List.setIfInBounds_toArray, List.set_cons_zero, List.set_cons_succ]); (try go_wp2_with fail); refine hK.out _ _ trivial fun _ => ?_; clear hK K; (try simp only [Act.put, List.setIfInBounds_toArray, List.set_cons_zero, List.set_cons_succ])
          refine wpAnyH_ready (rs := [6]) (by kernel_rfl) (by simp) ?_; refine AllReadyH.cons rfl (fun K hK => ?_) AllReadyH.nil; refine step_app_own rfl (.tmp 21) (.tmp 25) 24 rfl w0.heap.size 3 i0 (.int .i64 0) 1 8 Try.underlying24 hi0 hz0v hzz1 hzz2 rfl (by decide) (.slice A n c) n (ints ss) rfl N3.out.rs ⟨w2.heap.size, 0, none⟩ 1 1 [.int .i64 (1 + r)] rfl rfl (fun j u hj => by rw [Addr.add_mid, Nat.zero_add]; exact one_int _ _ _ _ (by simp) hj) (one_intc _) (by unfold maxLen; omega) (by omega) N3.out.grown.size 26 rfl (n + 1) rfl (ints (ss ++ [1 + r])) (ints_snoc _ _) ?_; intro A9 c9 w9 op9 gp9; (try simp only [Act.put, List.setIfInBounds_toArray, List.set_cons_zero, List.set_cons_succ]); refine hK.out _ _ trivial fun _ => ?_; clear hK K; (try simp only [Act.put, List.setIfInBounds_toArray, List.set_cons_zero, List.set_cons_succ])
          have B9 := Lib.hid (N3.out.box.kept gp9 (own_types N3.out.box N3.out.rs tabInt))
          have NS := Lib.hid (N3.out.sized op9 gp9)
          clear op9 gp9
          refine wpAnyH_take (i := 7) (v := ?_) rfl (by kernel_rfl) (by kernel_rfl) (by kernel_rfl) (fun _ _ _ h => h) (Or.inl ⟨by rfl, ?_⟩) trivial ?_; rotate_left 1; (focus (intro w hSw; go_simp; (try with_reducible rfl))); (try simp only [Act.put, List.setIfInBounds_toArray, List.set_cons_zero, List.set_cons_succ])
          have cx9 := own_at B9.out (j := 0) rfl
          have cz9 : gt < w9.heap.size := World.block_lt_of_cell? w9 _ cx9
          have cf9 := B9.out.frozenAt 0
          refine wpAnyH_ready (rs := [8]) (by kernel_rfl) (by simp) ?_; refine AllReadyH.cons rfl (fun K hK => ?_) AllReadyH.nil; go_simp; (try simp only [Act.put, List.setIfInBounds_toArray, List.set_cons_zero, List.set_cons_succ]); (try go_wp2_with fail); refine hK.out _ _ trivial fun _ => ?_; clear hK K; (try simp only [Act.put, List.setIfInBounds_toArray, List.set_cons_zero, List.set_cons_succ])
          clear cx9 cz9 cf9
          refine wpAnyH_done (by kernel_rfl) ?_ _
        rotate_left 1
        focus
          go_simp; (try simp only [Act.put, List.setIfInBounds_toArray, List.set_cons_zero, List.set_cons_succ]); (try go_wp2_with (go_at_call 31; refine (pick_any g _ 3 _ N2.out.cur (by omega) (by omega)).mono ?_; rintro e w1 ⟨v, rfl, ⟨r, rfl, r0, r1⟩, C1, G1⟩)); refine hK.out _ _ trivial fun _ => ?_; clear hK K; (try simp only [Act.put, List.setIfInBounds_toArray, List.set_cons_zero, List.set_cons_succ])
          have N1 := Lib.hid (N2.out.draw C1 G1)
          clear C1 G1
          have wu : IntKind.i64.wrap (1 + r) = 1 + r := IntWalk.i64_in _ (by omega)
          refine wpAnyH_take (i := 4) (v := ?_) rfl (by kernel_rfl) (by kernel_rfl) (by kernel_rfl) (fun _ _ _ h => h) (Or.inl ⟨by rfl, ?_⟩) trivial ?_; rotate_left 1; (focus (intro w hSw; go_simp; (try with_reducible rfl))); (try simp only [Act.put, List.setIfInBounds_toArray, List.set_cons_zero, List.set_cons_succ])
          refine wpAnyH_ready (rs := [1, 5]) (by kernel_rfl) (by simp) ?_; refine AllReadyH.cons rfl (fun K hK => ?_) (AllReadyH.cons rfl (fun K hK => ?_) (AllReadyH.nil))
          focus
            have cx2 := own_at N1.out.box (j := 0) rfl
            have cz2 : gt < w1.heap.size := by have h9 := World.block_lt_of_cell? w1 _ cx2; (try simp only [World.size_alloc, World.size_drew] at h9); exact h9
            go_simp; (try simp only [Act.put, List.setIfInBounds_toArray, List.set_cons_zero, List.set_cons_succ]); (try go_wp2_with fail); refine hK.out _ _ trivial fun _ => ?_; clear hK K; (try simp only [Act.put, List.setIfInBounds_toArray, List.set_cons_zero, List.set_cons_succ])
            clear cx2 cz2
            have N3 := Lib.hid (N1.out.step ((Ext.refl (w1)).alloc (.cells #[.int .i64 (1 + r)] 3)))
            refine wpAnyH_ready (rs := [5]) (by kernel_rfl) (by simp) ?_; refine AllReadyH.cons rfl (fun K hK => ?_) AllReadyH.nil; go_simp; (try simp only [Act.put, List.setIfInBounds_toArray, List.set_cons_zero, List.set_cons_succ]); (try go_wp2_with fail); refine hK.out _ _ trivial fun _ => ?_; clear hK K; (try simp only [Act.put, List.setIfInBounds_toArray, List.set_cons_zero, List.set_cons_succ])
            refine wpAnyH_ready (rs := [6]) (by kernel_rfl) (by simp) ?_; refine AllReadyH.cons rfl (fun K hK => ?_) AllReadyH.nil; refine step_app_own rfl (.tmp 21) (.tmp 25) 24 rfl w0.heap.size 3 i0 (.int .i64 0) 1 8 Try.underlying24 hi0 hz0v hzz1 hzz2 rfl (by decide) (.slice A n c) n (ints ss) rfl N3.out.rs ⟨w1.heap.size, 0, none⟩ 1 1 [.int .i64 (1 + r)] rfl rfl (fun j u hj => by rw [Addr.add_mid, Nat.zero_add]; exact one_int _ _ _ _ (by simp) hj) (one_intc _) (by unfold maxLen; omega) (by omega) N3.out.grown.size 26 rfl (n + 1) rfl (ints (ss ++ [1 + r])) (ints_snoc _ _) ?_; intro A9 c9 w9 op9 gp9; (try simp only [Act.put, List.setIfInBounds_toArray, List.set_cons_zero, List.set_cons_succ]); refine hK.out _ _ trivial fun _ => ?_; clear hK K; (try simp only [Act.put, List.setIfInBounds_toArray, List.set_cons_zero, List.set_cons_succ])
            have B9 := Lib.hid (N3.out.box.kept gp9 (own_types N3.out.box N3.out.rs tabInt))
            have NS := Lib.hid (N3.out.sized op9 gp9)
            clear op9 gp9
            refine wpAnyH_take (i := 7) (v := ?_) rfl (by kernel_rfl) (by kernel_rfl) (by kernel_rfl) (fun _ _ _ h => h) (Or.inl ⟨by rfl, ?_⟩) trivial ?_; rotate_left 1; (focus (intro w hSw; go_simp; (try with_reducible rfl))); (try simp only [Act.put, List.setIfInBounds_toArray, List.set_cons_zero, List.set_cons_succ])
            have cx9 := own_at B9.out (j := 0) rfl
            have cz9 : gt < w9.heap.size := World.block_lt_of_cell? w9 _ cx9
            have cf9 := B9.out.frozenAt 0
            refine wpAnyH_ready (rs := [8]) (by kernel_rfl) (by simp) ?_; refine AllReadyH.cons rfl (fun K hK => ?_) AllReadyH.nil; go_simp; (try simp only [Act.put, List.setIfInBounds_toArray, List.set_cons_zero, List.set_cons_succ]); (try go_wp2_with fail); refine hK.out _ _ trivial fun _ => ?_; clear hK K; (try simp only [Act.put, List.setIfInBounds_toArray, List.set_cons_zero, List.set_cons_succ])
            clear cx9 cz9 cf9
            refine wpAnyH_done (by kernel_rfl) ?_ _
          rotate_left 1
          focus
            have N2 := Lib.hid (N1.out.step ((Ext.refl (w1)).alloc (.cells #[.int .i64 (1 + r)] 3)))
            go_simp; (try simp only [Act.put, List.setIfInBounds_toArray, List.set_cons_zero, List.set_cons_succ]); (try go_wp2_with fail); refine hK.out _ _ trivial fun _ => ?_; clear hK K; (try simp only [Act.put, List.setIfInBounds_toArray, List.set_cons_zero, List.set_cons_succ])
            have cx3 := own_at N2.out.box (j := 0) rfl
            have cz3 : gt < w1.heap.size + 1 := by have h9 := World.block_lt_of_cell? (w1.alloc (.cells #[.int .i64 (1 + r)] 3)) _ cx3; (try simp only [World.size_alloc, World.size_drew] at h9); exact h9
            have cy3 := own_at N1.out.box (j := 0) rfl
            have cu3 : gt < w1.heap.size := by have h9 := World.block_lt_of_cell? w1 _ cy3; (try simp only [World.size_alloc, World.size_drew] at h9); exact h9
            have cv3 : ¬ gt = w1.heap.size := by omega
            refine wpAnyH_ready (rs := [1]) (by kernel_rfl) (by simp) ?_; refine AllReadyH.cons rfl (fun K hK => ?_) AllReadyH.nil; go_simp; (try simp only [Act.put, List.setIfInBounds_toArray, List.set_cons_zero, List.set_cons_succ]); (try go_wp2_with fail); refine hK.out _ _ trivial fun _ => ?_; clear hK K; (try simp only [Act.put, List.setIfInBounds_toArray, List.set_cons_zero, List.set_cons_succ])
            clear cx3 cz3 cy3 cu3 cv3
            refine wpAnyH_ready (rs := [6]) (by kernel_rfl) (by simp) ?_; refine AllReadyH.cons rfl (fun K hK => ?_) AllReadyH.nil; refine step_app_own rfl (.tmp 21) (.tmp 25) 24 rfl w0.heap.size 3 i0 (.int .i64 0) 1 8 Try.underlying24 hi0 hz0v hzz1 hzz2 rfl (by decide) (.slice A n c) n (ints ss) rfl N2.out.rs ⟨w1.heap.size, 0, none⟩ 1 1 [.int .i64 (1 + r)] rfl rfl (fun j u hj => by rw [Addr.add_mid, Nat.zero_add]; exact one_int _ _ _ _ (by simp) hj) (one_intc _) (by unfold maxLen; omega) (by omega) N2.out.grown.size 26 rfl (n + 1) rfl (ints (ss ++ [1 + r])) (ints_snoc _ _) ?_; intro A9 c9 w9 op9 gp9; (try simp only [Act.put, List.setIfInBounds_toArray, List.set_cons_zero, List.set_cons_succ]); refine hK.out _ _ trivial fun _ => ?_; clear hK K; (try simp only [Act.put, List.setIfInBounds_toArray, List.set_cons_zero, List.set_cons_succ])
            have B9 := Lib.hid (N2.out.box.kept gp9 (own_types N2.out.box N2.out.rs tabInt))
            have NS := Lib.hid (N2.out.sized op9 gp9)
            clear op9 gp9
            refine wpAnyH_take (i := 7) (v := ?_) rfl (by kernel_rfl) (by kernel_rfl) (by kernel_rfl) (fun _ _ _ h => h) (Or.inl ⟨by rfl, ?_⟩) trivial ?_; rotate_left 1; (focus (intro w hSw; go_simp; (try with_reducible rfl))); (try simp only [Act.put, List.setIfInBounds_toArray, List.set_cons_zero, List.set_cons_succ])
            have cx9 := own_at B9.out (j := 0) rfl
            have cz9 : gt < w9.heap.size := World.block_lt_of_cell? w9 _ cx9
            have cf9 := B9.out.frozenAt 0
            refine wpAnyH_ready (rs := [8]) (by kernel_rfl) (by simp) ?_; refine AllReadyH.cons rfl (fun K hK => ?_) AllReadyH.nil; go_simp; (try simp only [Act.put, List.setIfInBounds_toArray, List.set_cons_zero, List.set_cons_succ]); (try go_wp2_with fail); refine hK.out _ _ trivial fun _ => ?_; clear hK K; (try simp only [Act.put, List.setIfInBounds_toArray, List.set_cons_zero, List.set_cons_succ])
            clear cx9 cz9 cf9
            refine wpAnyH_done (by kernel_rfl) ?_ _
          rotate_left 1
        rotate_left 2
        all_goals
          (try simp only [List.getElem_toArray, List.getElem_cons_succ, List.getElem_cons_zero, List.setIfInBounds_toArray, List.set_cons_succ, List.set_cons_zero])
          have hA9 : ∃ q9, A9 = some ⟨q9, 0, none⟩ := by
            obtain ⟨q9, cap, hv, _⟩ := NS.out.rs.form (by omega)
            injection hv with hv
            exact ⟨q9, hv⟩
          have HSS := Lib.hid (show ∀ x ∈ ss ++ [1 + r], 0 ≤ x ∧ x ≤ 6 from fun x hx => by
            rcases List.mem_append.1 hx with hx | hx
            · exact hss.out x hx
            · simp at hx; omega)
          go_wp2
          go_roundw
          case rel => exact ⟨k - 1, A9, n + 1, c9, ss ++ [1 + r], by go_num, by omega, by omega, HSS.out, hA9, NS.out.mono (by omega)⟩
          case measure => simp [intOf]; omega
      · obtain rfl : k = 0 := by omega
        go_wp2
        go_meet
        exact ⟨_, n, c, ss, by omega, hss, ⟨q, rfl⟩, N1.out.mono (by omega)⟩
  case rest =>
    obtain ⟨A, n, c, ss, hn4, hss, ⟨q, rfl⟩, hst⟩ := hcut
    have N1 := Lib.hid hst
    clear hst S1 r0 r1 hr4
    go_wp2_with fail
    refine (pick_any g _ 6 _ N1.out.cur (by omega) (by omega)).mono ?_
    rintro e w2 ⟨v, rfl, ⟨r, rfl, r0, r1⟩, C2, G2⟩
    have N2 := Lib.hid (N1.out.draw C2 G2)
    obtain ⟨r, rfl⟩ : ∃ q : Nat, r = q := ⟨r.toNat, by omega⟩
    have hr5 : r ≤ 5 := by omega
    clear C2 G2 N1 r0 r1
    go_upto_block 2 with fail
    go_cut [5, 6, 7, 8, 9] (fun p s6 s7 s8 s9 W => ∃ (A : Option Addr) (n c : Nat) (B : Option Addr) (m d : Nat) (ss : List Int) (bs : List Ban), n ≤ 4 ∧ m ≤ 5 ∧ Hid (∀ x ∈ ss, 0 ≤ x ∧ x ≤ 6) ∧ Hid (∀ x ∈ bs, BanSm x) ∧ (∃ q, A = some ⟨q, 0, none⟩) ∧ (∃ q, B = some ⟨q, 0, none⟩) ∧ KSt w0 g (b + 100) gt A n c B m d ss bs W)
    case first =>
      go_wp2_with fail
      go_loopw [5] (fun p wr => ∃ (k : Nat) (A : Option Addr) (n c : Nat) (B : Option Addr) (m d : Nat) (ss : List Int) (bs : List Ban), p = .int .i64 k ∧ k ≤ 5 ∧ n ≤ 4 ∧ m + k ≤ 5 ∧ Hid (∀ x ∈ ss, 0 ≤ x ∧ x ≤ 6) ∧ Hid (∀ x ∈ bs, BanSm x) ∧ (∃ q, A = some ⟨q, 0, none⟩) ∧ (∃ q, B = some ⟨q, 0, none⟩) ∧ KSt w0 g (b + 12 + 10 * (5 - k)) gt A n c B m d ss bs wr) (fun p _ => (intOf p).toNat)
      case atStart => exact ⟨r, _, n, c, _, 0, 0, ss, [], rfl, hr5, hn4, by omega, hss, (fun x hx => by cases hx), ⟨q, rfl⟩, ⟨_, rfl⟩, N2.out.mono (by omega)⟩
      case round =>
        obtain ⟨k, A, n, c, B, m, d, ss, bs, rfl, hk, hn4, hmk, hss, hbs, ⟨q, rfl⟩, ⟨q2, rfl⟩, hst⟩ := hrel
        have N1 := Lib.hid hst
        clear hst N2
        have cb0 := own_at N1.out.box (j := 0) rfl
        have zb0 : gt < wr.heap.size := World.block_lt_of_cell? wr _ cb0
        by_cases hlt : 0 < k
        · have hkd : decide ((0 : Int) < (k : Int)) = true := by simp; omega
          have hkd2 : decide (0 < k) = true := by simp; omega
          by_cases hn1 : 1 < n
          · have hnd : decide ((1 : Int) < (n : Int)) = true := by simp; omega
            have hnd2 : decide (1 < n) = true := by simp; omega
            go_wp2_with fail
            refine (pick_any g _ ((n : Int) - 1) _ N1.out.cur (by omega) (by omega)).mono ?_
            rintro e w3 ⟨v, rfl, ⟨a, rfl, a0, a1⟩, C3, G3⟩
            have N3 := Lib.hid (N1.out.draw C3 G3)
            clear C3 G3 cb0 zb0
            obtain ⟨a, rfl⟩ : ∃ q : Nat, a = q := ⟨a.toNat, by omega⟩
            have ha1 : a + 1 < n := by omega
            have cb0 := own_at N3.out.box (j := 0) rfl
            have zb0 : gt < w3.heap.size := World.block_lt_of_cell? w3 _ cb0
            go_wp2_with fail
            refine (pick_any g _ ((n : Int) - 1 - (a : Int)) _ N3.out.cur (by omega) (by omega)).mono ?_
            rintro e w4 ⟨v, rfl, ⟨r, rfl, r0, r1⟩, C4, G4⟩
            have N4 := Lib.hid (N3.out.draw C4 G4)
            clear C4 G4 cb0 zb0 N1 N3
            obtain ⟨r, rfl⟩ : ∃ q : Nat, r = q := ⟨r.toNat, by omega⟩
            have hb1 : a + 1 + r < n := by omega
            have cb0 := own_at N4.out.box (j := 0) rfl
            have zb0 : gt < w4.heap.size := World.block_lt_of_cell? w4 _ cb0
            go_wp2
            rw [show (a : Int) + 1 + (r : Int) = ((a + 1 + r : Nat) : Int) by omega]
            clear r0 r1
            generalize a + 1 + r = bb at *
            have hsl : ss.length = n := by have := N4.out.rs.1; rw [ints_length] at this; omega
            obtain ⟨va, hva⟩ : ∃ va, ss[a]? = some va := ⟨_, List.getElem?_eq_getElem (by omega)⟩
            obtain ⟨vb, hvb⟩ : ∃ vb, ss[bb]? = some vb := ⟨_, List.getElem?_eq_getElem (by omega)⟩
            have va2 := hss.out va (List.mem_of_getElem? hva)
            have vb2 := hss.out vb (List.mem_of_getElem? hvb)
            have hja := ints_get hva
            have hjb := ints_get hvb
            have ia1 : (a : Int) < (n : Int) := by omega
            have ib1 : (bb : Int) < (n : Int) := by omega
            clear hva hvb cb0 zb0
            refine wp_region_held_drew (S := fun w' => w'.cell? ⟨gt, 0, none⟩ = some (.slice (some ⟨q, 0, none⟩) n c) ∧ w'.cell? ⟨gt, 1, none⟩ = some (.slice (some ⟨q2, 0, none⟩) m d) ∧ w'.cell? ⟨q, a, none⟩ = some (.int .i64 va) ∧ w'.cell? ⟨q, bb, none⟩ = some (.int .i64 vb)) (by kernel_rfl) ?_ (fun hHeld => ?_)
            · have N5 := Lib.hid (N4.out.step (Ext.refl w4).drew)
              exact ⟨own_at N5.out.box (j := 0) rfl, own_at N5.out.box (j := 1) rfl, own_at N5.out.rs (j := a) hja, own_at N5.out.rs (j := bb) hjb⟩
            have N5 := Lib.hid (N4.out.step (Ext.refl w4).drew)
            refine wpAnyH_take (i := 0) (v := ?_) rfl (by kernel_rfl) (by kernel_rfl) (by kernel_rfl) (fun _ _ _ h => h) (Or.inl ⟨by rfl, ?_⟩) (by assumption) ?_; rotate_left 1; (focus (intro w hSw; (try dsimp only at hSw); obtain ⟨y0, y1, y2, y3⟩ := hSw; go_simp; (try with_reducible rfl))); (try simp only [Act.put, List.setIfInBounds_toArray, List.set_cons_zero, List.set_cons_succ])
            refine wpAnyH_take (i := 1) (v := ?_) rfl (by kernel_rfl) (by kernel_rfl) (by kernel_rfl) (fun _ _ _ h => h) (Or.inl ⟨by rfl, ?_⟩) (by assumption) ?_; rotate_left 1; (focus (intro w hSw; (try dsimp only at hSw); obtain ⟨y0, y1, y2, y3⟩ := hSw; go_simp; (try with_reducible rfl))); (try simp only [Act.put, List.setIfInBounds_toArray, List.set_cons_zero, List.set_cons_succ])
            refine wpAnyH_take (i := 2) (v := ?_) rfl (by kernel_rfl) (by kernel_rfl) (by kernel_rfl) (fun _ _ _ h => h) (Or.inl ⟨by rfl, ?_⟩) (by assumption) ?_; rotate_left 1; (focus (intro w hSw; (try dsimp only at hSw); obtain ⟨y0, y1, y2, y3⟩ := hSw; go_simp; (try with_reducible rfl))); (try simp only [Act.put, List.setIfInBounds_toArray, List.set_cons_zero, List.set_cons_succ])
            refine wpAnyH_take (i := 3) (v := ?_) rfl (by kernel_rfl) (by kernel_rfl) (by kernel_rfl) (fun _ _ _ h => h) (Or.inl ⟨by rfl, ?_⟩) (by assumption) ?_; rotate_left 1; (focus (intro w hSw; (try dsimp only at hSw); obtain ⟨y0, y1, y2, y3⟩ := hSw; go_simp; (try with_reducible rfl))); (try simp only [Act.put, List.setIfInBounds_toArray, List.set_cons_zero, List.set_cons_succ])
            refine wpAnyH_take (i := 4) (v := ?_) rfl (by kernel_rfl) (by kernel_rfl) (by kernel_rfl) (fun _ _ _ h => h) (Or.inl ⟨by rfl, ?_⟩) (by assumption) ?_; rotate_left 1; (focus (intro w hSw; (try dsimp only at hSw); obtain ⟨y0, y1, y2, y3⟩ := hSw; go_simp; (try with_reducible rfl))); (try simp only [Act.put, List.setIfInBounds_toArray, List.set_cons_zero, List.set_cons_succ])
            refine wpAnyH_take (i := 5) (v := ?_) rfl (by kernel_rfl) (by kernel_rfl) (by kernel_rfl) (fun _ _ _ h => h) (Or.inl ⟨by rfl, ?_⟩) (by assumption) ?_; rotate_left 1; (focus (intro w hSw; (try dsimp only at hSw); obtain ⟨y0, y1, y2, y3⟩ := hSw; go_simp; (try with_reducible rfl))); (try simp only [Act.put, List.setIfInBounds_toArray, List.set_cons_zero, List.set_cons_succ])
            refine wpAnyH_take (i := 6) (v := ?_) rfl (by kernel_rfl) (by kernel_rfl) (by kernel_rfl) (fun _ _ _ h => h) (Or.inl ⟨by rfl, ?_⟩) (by assumption) ?_; rotate_left 1; (focus (intro w hSw; (try dsimp only at hSw); obtain ⟨y0, y1, y2, y3⟩ := hSw; go_simp; (try with_reducible rfl))); (try simp only [Act.put, List.setIfInBounds_toArray, List.set_cons_zero, List.set_cons_succ])
            refine wpAnyH_take (i := 7) (v := ?_) rfl (by kernel_rfl) (by kernel_rfl) (by kernel_rfl) (fun _ _ _ h => h) (Or.inl ⟨by rfl, ?_⟩) (by assumption) ?_; rotate_left 1; (focus (intro w hSw; (try dsimp only at hSw); obtain ⟨y0, y1, y2, y3⟩ := hSw; go_simp; (try with_reducible rfl))); (try simp only [Act.put, List.setIfInBounds_toArray, List.set_cons_zero, List.set_cons_succ])
            refine wpAnyH_take (i := 9) (v := ?_) rfl (by kernel_rfl) (by kernel_rfl) (by kernel_rfl) (fun _ _ _ h => h) (Or.inl ⟨by rfl, ?_⟩) (by assumption) ?_; rotate_left 1; (focus (intro w hSw; (try dsimp only at hSw); obtain ⟨y0, y1, y2, y3⟩ := hSw; go_simp; (try with_reducible rfl))); (try simp only [Act.put, List.setIfInBounds_toArray, List.set_cons_zero, List.set_cons_succ])
            refine wpAnyH_take (i := 10) (v := ?_) rfl (by kernel_rfl) (by kernel_rfl) (by kernel_rfl) (fun _ _ _ h => h) (Or.inl ⟨by rfl, ?_⟩) (by assumption) ?_; rotate_left 1; (focus (intro w hSw; (try dsimp only at hSw); obtain ⟨y0, y1, y2, y3⟩ := hSw; go_simp; (try with_reducible rfl))); (try simp only [Act.put, List.setIfInBounds_toArray, List.set_cons_zero, List.set_cons_succ])
            refine wpAnyH_take (i := 11) (v := ?_) rfl (by kernel_rfl) (by kernel_rfl) (by kernel_rfl) (fun _ _ _ h => h) (Or.inl ⟨by rfl, ?_⟩) (by assumption) ?_; rotate_left 1; (focus (intro w hSw; (try dsimp only at hSw); obtain ⟨y0, y1, y2, y3⟩ := hSw; go_simp; (try with_reducible rfl))); (try simp only [Act.put, List.setIfInBounds_toArray, List.set_cons_zero, List.set_cons_succ])
            refine wpAnyH_take (i := 12) (v := ?_) rfl (by kernel_rfl) (by kernel_rfl) (by kernel_rfl) (fun _ _ _ h => h) (Or.inl ⟨by rfl, ?_⟩) (by assumption) ?_; rotate_left 1; (focus (intro w hSw; (try dsimp only at hSw); obtain ⟨y0, y1, y2, y3⟩ := hSw; go_simp; (try with_reducible rfl))); (try simp only [Act.put, List.setIfInBounds_toArray, List.set_cons_zero, List.set_cons_succ])
            refine wpAnyH_take (i := 13) (v := ?_) rfl (by kernel_rfl) (by kernel_rfl) (by kernel_rfl) (fun _ _ _ h => h) (Or.inl ⟨by rfl, ?_⟩) (by assumption) ?_; rotate_left 1; (focus (intro w hSw; (try dsimp only at hSw); obtain ⟨y0, y1, y2, y3⟩ := hSw; go_simp; (try with_reducible rfl))); (try simp only [Act.put, List.setIfInBounds_toArray, List.set_cons_zero, List.set_cons_succ])
            refine wpAnyH_take (i := 14) (v := ?_) rfl (by kernel_rfl) (by kernel_rfl) (by kernel_rfl) (fun _ _ _ h => h) (Or.inl ⟨by rfl, ?_⟩) (by assumption) ?_; rotate_left 1; (focus (intro w hSw; (try dsimp only at hSw); obtain ⟨y0, y1, y2, y3⟩ := hSw; go_simp; (try with_reducible rfl))); (try simp only [Act.put, List.setIfInBounds_toArray, List.set_cons_zero, List.set_cons_succ])
            refine wpAnyH_take (i := 15) (v := ?_) rfl (by kernel_rfl) (by kernel_rfl) (by kernel_rfl) (fun _ _ _ h => h) (Or.inl ⟨by rfl, ?_⟩) (by assumption) ?_; rotate_left 1; (focus (intro w hSw; (try dsimp only at hSw); obtain ⟨y0, y1, y2, y3⟩ := hSw; go_simp; (try with_reducible rfl))); (try simp only [Act.put, List.setIfInBounds_toArray, List.set_cons_zero, List.set_cons_succ])
            refine wpAnyH_ready (rs := [8, 22]) (by kernel_rfl) (by simp) ?_; refine AllReadyH.cons rfl (fun K hK => ?_) (AllReadyH.cons rfl (fun K hK => ?_) (AllReadyH.nil))
            focus
              go_simp; (try simp only [Act.put, List.setIfInBounds_toArray, List.set_cons_zero, List.set_cons_succ]); (try go_wp2_with (go_at_call 31; refine (pick_any g _ va _ N5.out.cur (by omega) (by omega)).mono ?_; rintro e w20 ⟨v, rfl, ⟨x, rfl, x0, x1⟩, C20, G20⟩; have N20 := Lib.hid (N5.out.draw C20 G20))); refine hK.out _ _ ⟨own_at N20.out.box (j := 0) rfl, own_at N20.out.box (j := 1) rfl, own_at N20.out.rs (j := a) hja, own_at N20.out.rs (j := bb) hjb⟩ fun hHeld => ?_; clear hK K; (try simp only [Act.put, List.setIfInBounds_toArray, List.set_cons_zero, List.set_cons_succ])
              clear C20 G20
              refine wpAnyH_ready (rs := [16, 22]) (by kernel_rfl) (by simp) ?_; refine AllReadyH.cons rfl (fun K hK => ?_) (AllReadyH.cons rfl (fun K hK => ?_) (AllReadyH.nil))
              focus
                go_simp; (try simp only [Act.put, List.setIfInBounds_toArray, List.set_cons_zero, List.set_cons_succ]); (try go_wp2_with (go_at_call 31; refine (pick_any g _ vb _ N20.out.cur (by omega) (by omega)).mono ?_; rintro e w21 ⟨v, rfl, ⟨y, rfl, y0, y1⟩, C21, G21⟩; have N21 := Lib.hid (N20.out.draw C21 G21))); refine hK.out _ _ ⟨own_at N21.out.box (j := 0) rfl, own_at N21.out.box (j := 1) rfl, own_at N21.out.rs (j := a) hja, own_at N21.out.rs (j := bb) hjb⟩ fun hHeld => ?_; clear hK K; (try simp only [Act.put, List.setIfInBounds_toArray, List.set_cons_zero, List.set_cons_succ])
                clear C21 G21
                refine wpAnyH_take (i := 17) (v := ?_) rfl (by kernel_rfl) (by kernel_rfl) (by kernel_rfl) (fun _ _ _ h => h) (Or.inl ⟨by rfl, ?_⟩) (by assumption) ?_; rotate_left 1; (focus (intro w hSw; (try dsimp only at hSw); obtain ⟨y0, y1, y2, y3⟩ := hSw; go_simp; (try with_reducible rfl))); (try simp only [Act.put, List.setIfInBounds_toArray, List.set_cons_zero, List.set_cons_succ])
                refine wpAnyH_ready (rs := [18, 22]) (by kernel_rfl) (by simp) ?_; refine AllReadyH.cons rfl (fun K hK => ?_) (AllReadyH.cons rfl (fun K hK => ?_) (AllReadyH.nil))
                focus
                  have HB := Lib.hid (show BanSm ⟨a, x, bb, y⟩ from ⟨smI (a : Int) (by omega) (by omega), smI x (by omega) (by omega), smI (bb : Int) (by omega) (by omega), smI y (by omega) (by omega)⟩)
                  go_simp; (try simp only [Act.put, List.setIfInBounds_toArray, List.set_cons_zero, List.set_cons_succ]); (try go_wp2_with (go_at_call 18; refine (AddBanS_any ⟨q, 0, none⟩ n c q2 0 m d ss bs ⟨a, x, bb, y⟩ _ (N21.out.tab hss hbs (by omega) (by omega)) (own_le N21.out.rb) (HB.out).wf).mono ?_; rintro e w22 ⟨A9, n9, c9, B9, m9, d9, rfl, q9, p9, e9⟩; have N22 := Lib.hid (N21.out.step e9))); refine hK.out _ _ ⟨own_at N22.out.box (j := 0) rfl, own_at N22.out.box (j := 1) rfl, own_at N22.out.rs (j := a) hja, own_at N22.out.rs (j := bb) hjb⟩ fun hHeld => ?_; clear hK K; (try simp only [Act.put, List.setIfInBounds_toArray, List.set_cons_zero, List.set_cons_succ])
                  have rs22 := Lib.hid (own_low' q9 N21.out.grown.size)
                  have rb22 := Lib.hid (own_low' p9 N21.out.grown.size)
                  clear q9 p9 e9
                  refine wpAnyH_take (i := 19) (v := ?_) rfl (by kernel_rfl) (by kernel_rfl) (by kernel_rfl) (fun _ _ _ h => h) (Or.inl ⟨by rfl, ?_⟩) (by assumption) ?_; rotate_left 1; (focus (intro w hSw; (try dsimp only at hSw); obtain ⟨y0, y1, y2, y3⟩ := hSw; go_simp; (try with_reducible rfl))); (try simp only [Act.put, List.setIfInBounds_toArray, List.set_cons_zero, List.set_cons_succ])
                  refine wpAnyH_take (i := 20) (v := ?_) rfl (by kernel_rfl) (by kernel_rfl) (by kernel_rfl) (fun _ _ _ h => h) (Or.inl ⟨by rfl, ?_⟩) (by assumption) ?_; rotate_left 1; (focus (intro w hSw; (try dsimp only at hSw); obtain ⟨y0, y1, y2, y3⟩ := hSw; go_simp; (try with_reducible rfl))); (try simp only [Act.put, List.setIfInBounds_toArray, List.set_cons_zero, List.set_cons_succ])
                  refine wpAnyH_take (i := 21) (v := ?_) rfl (by kernel_rfl) (by kernel_rfl) (by kernel_rfl) (fun _ _ _ h => h) (Or.inl ⟨by rfl, ?_⟩) (by assumption) ?_; rotate_left 1; (focus (intro w hSw; (try dsimp only at hSw); obtain ⟨y0, y1, y2, y3⟩ := hSw; go_simp; (try with_reducible rfl))); (try simp only [Act.put, List.setIfInBounds_toArray, List.set_cons_zero, List.set_cons_succ])
                  have N23 := Lib.hid (N22.out.step ((Ext.refl (w22)).alloc (.cells #[.slice none 0 0, .slice none 0 0] 27)))
                  have zn23 : gt ≠ w22.heap.size := by have h9 := (N22.out.box.lt gt rfl).2; (try simp only [World.size_alloc, World.size_drew] at h9); omega
                  have zr23 : w0.heap.size ≠ w22.heap.size := by have h9 := (N22.out.res.lt _ rfl).2; (try simp only [World.size_alloc, World.size_drew] at h9); omega
                  have ob23 := own_low' (own_block (w22) 27 [.slice none 0 0, .slice none 0 0]) N22.out.grown.size
                  (try simp only [World.size_alloc, World.size_drew] at ob23)
                  have oh23 := Lib.hid ob23
                  clear ob23
                  refine wpAnyH_ready (rs := [22]) (by kernel_rfl) (by simp) ?_; refine AllReadyH.cons rfl (fun K hK => ?_) AllReadyH.nil; go_simp; (try simp only [Act.put, List.setIfInBounds_toArray, List.set_cons_zero, List.set_cons_succ]); (try go_wp2_with fail); refine hK.out _ _ ⟨own_at N23.out.box (j := 0) rfl, own_at N23.out.box (j := 1) rfl, own_at N23.out.rs (j := a) hja, own_at N23.out.rs (j := bb) hjb⟩ fun hHeld => ?_; clear hK K; (try simp only [Act.put, List.setIfInBounds_toArray, List.set_cons_zero, List.set_cons_succ])
                  have rs23 := Lib.hid (((Ext.refl (w22)).alloc (.cells #[.slice none 0 0, .slice none 0 0] 27)).own rs22.out)
                  have rb23 := Lib.hid (((Ext.refl (w22)).alloc (.cells #[.slice none 0 0, .slice none 0 0] 27)).own rb22.out)
                  obtain ⟨t0, t1, tg⟩ := tab_stored oh23.out (.slice A9 n9 c9) (.slice B9 m9 d9)
                  have NX := Lib.hid (N23.out.other oh23.out zn23 zr23 tg)
                  have RX := Lib.hid (rs23.out.kept tg (own_types rs23.out oh23.out (fun e => tabInt e.symm)))
                  have BX := Lib.hid (rb23.out.kept tg (own_types rb23.out oh23.out banTab))
                  refine wpAnyH_ready (rs := [23]) (by kernel_rfl) (by simp) ?_; refine AllReadyH.cons rfl (fun K hK => ?_) AllReadyH.nil; refine step_store rfl 27 (.tmp 8) (.tmp 77) rfl (w22.heap.size) 0 [.slice A9 n9 c9, .slice B9 m9 d9] rfl rfl (own_there oh23.out 0 2 (by simp)) sizeTab rfl rfl ?_; refine hK.out _ _ ⟨own_at NX.out.box (j := 0) rfl, own_at NX.out.box (j := 1) rfl, own_at NX.out.rs (j := a) hja, own_at NX.out.rs (j := bb) hjb⟩ fun hHeld => ?_; clear hK K; (try simp only [Act.put, List.setIfInBounds_toArray, List.set_cons_zero, List.set_cons_succ])
                  generalize (World.setCells _ (w22.heap.size) 0 [.slice A9 n9 c9, .slice B9 m9 d9]) = W9 at *
                  generalize (w22.heap.size) = go at *
                  refine wpAnyH_take (i := 24) (v := ?_) rfl (by kernel_rfl) (by kernel_rfl) (by kernel_rfl) (fun _ _ _ h => h) (Or.inl ⟨by rfl, ?_⟩) (by assumption) ?_; rotate_left 1; (focus (intro w hSw; (try dsimp only at hSw); obtain ⟨y0, y1, y2, y3⟩ := hSw; go_simp; (try with_reducible rfl))); (try simp only [Act.put, List.setIfInBounds_toArray, List.set_cons_zero, List.set_cons_succ])
                  refine wpAnyH_done (by kernel_rfl) ?_ _
                rotate_left 1
                focus
                  have N22 := Lib.hid (N21.out.step ((Ext.refl (w21)).alloc (.cells #[.slice none 0 0, .slice none 0 0] 27)))
                  have zn22 : gt ≠ w21.heap.size := by have h9 := (N21.out.box.lt gt rfl).2; (try simp only [World.size_alloc, World.size_drew] at h9); omega
                  have zr22 : w0.heap.size ≠ w21.heap.size := by have h9 := (N21.out.res.lt _ rfl).2; (try simp only [World.size_alloc, World.size_drew] at h9); omega
                  have ob22 := own_low' (own_block (w21) 27 [.slice none 0 0, .slice none 0 0]) N21.out.grown.size
                  (try simp only [World.size_alloc, World.size_drew] at ob22)
                  have oh22 := Lib.hid ob22
                  clear ob22
                  go_simp; (try simp only [Act.put, List.setIfInBounds_toArray, List.set_cons_zero, List.set_cons_succ]); (try go_wp2_with fail); refine hK.out _ _ ⟨own_at N22.out.box (j := 0) rfl, own_at N22.out.box (j := 1) rfl, own_at N22.out.rs (j := a) hja, own_at N22.out.rs (j := bb) hjb⟩ fun hHeld => ?_; clear hK K; (try simp only [Act.put, List.setIfInBounds_toArray, List.set_cons_zero, List.set_cons_succ])
                  have HB := Lib.hid (show BanSm ⟨a, x, bb, y⟩ from ⟨smI (a : Int) (by omega) (by omega), smI x (by omega) (by omega), smI (bb : Int) (by omega) (by omega), smI y (by omega) (by omega)⟩)
                  refine wpAnyH_ready (rs := [18]) (by kernel_rfl) (by simp) ?_; refine AllReadyH.cons rfl (fun K hK => ?_) AllReadyH.nil; go_simp; (try simp only [Act.put, List.setIfInBounds_toArray, List.set_cons_zero, List.set_cons_succ]); (try go_wp2_with (go_at_call 18; refine (AddBanS_any ⟨q, 0, none⟩ n c q2 0 m d ss bs ⟨a, x, bb, y⟩ _ (N22.out.tab hss hbs (by omega) (by omega)) (own_le N22.out.rb) (HB.out).wf).mono ?_; rintro e w23 ⟨A9, n9, c9, B9, m9, d9, rfl, q9, p9, e9⟩; have N23 := Lib.hid (N22.out.step e9))); refine hK.out _ _ ⟨own_at N23.out.box (j := 0) rfl, own_at N23.out.box (j := 1) rfl, own_at N23.out.rs (j := a) hja, own_at N23.out.rs (j := bb) hjb⟩ fun hHeld => ?_; clear hK K; (try simp only [Act.put, List.setIfInBounds_toArray, List.set_cons_zero, List.set_cons_succ])
                  have rs23 := Lib.hid (own_low' q9 N22.out.grown.size)
                  have rb23 := Lib.hid (own_low' p9 N22.out.grown.size)
                  have ob23 := Lib.hid (e9.own oh22.out)
                  clear q9 p9 e9
                  refine wpAnyH_take (i := 19) (v := ?_) rfl (by kernel_rfl) (by kernel_rfl) (by kernel_rfl) (fun _ _ _ h => h) (Or.inl ⟨by rfl, ?_⟩) (by assumption) ?_; rotate_left 1; (focus (intro w hSw; (try dsimp only at hSw); obtain ⟨y0, y1, y2, y3⟩ := hSw; go_simp; (try with_reducible rfl))); (try simp only [Act.put, List.setIfInBounds_toArray, List.set_cons_zero, List.set_cons_succ])
                  refine wpAnyH_take (i := 20) (v := ?_) rfl (by kernel_rfl) (by kernel_rfl) (by kernel_rfl) (fun _ _ _ h => h) (Or.inl ⟨by rfl, ?_⟩) (by assumption) ?_; rotate_left 1; (focus (intro w hSw; (try dsimp only at hSw); obtain ⟨y0, y1, y2, y3⟩ := hSw; go_simp; (try with_reducible rfl))); (try simp only [Act.put, List.setIfInBounds_toArray, List.set_cons_zero, List.set_cons_succ])
                  refine wpAnyH_take (i := 21) (v := ?_) rfl (by kernel_rfl) (by kernel_rfl) (by kernel_rfl) (fun _ _ _ h => h) (Or.inl ⟨by rfl, ?_⟩) (by assumption) ?_; rotate_left 1; (focus (intro w hSw; (try dsimp only at hSw); obtain ⟨y0, y1, y2, y3⟩ := hSw; go_simp; (try with_reducible rfl))); (try simp only [Act.put, List.setIfInBounds_toArray, List.set_cons_zero, List.set_cons_succ])
                  obtain ⟨t0, t1, tg⟩ := tab_stored ob23.out (.slice A9 n9 c9) (.slice B9 m9 d9)
                  have NX := Lib.hid (N23.out.other ob23.out zn22 zr22 tg)
                  have RX := Lib.hid (rs23.out.kept tg (own_types rs23.out ob23.out (fun e => tabInt e.symm)))
                  have BX := Lib.hid (rb23.out.kept tg (own_types rb23.out ob23.out banTab))
                  refine wpAnyH_ready (rs := [23]) (by kernel_rfl) (by simp) ?_; refine AllReadyH.cons rfl (fun K hK => ?_) AllReadyH.nil; refine step_store rfl 27 (.tmp 8) (.tmp 77) rfl (w21.heap.size) 0 [.slice A9 n9 c9, .slice B9 m9 d9] rfl rfl (own_there ob23.out 0 2 (by simp)) sizeTab rfl rfl ?_; refine hK.out _ _ ⟨own_at NX.out.box (j := 0) rfl, own_at NX.out.box (j := 1) rfl, own_at NX.out.rs (j := a) hja, own_at NX.out.rs (j := bb) hjb⟩ fun hHeld => ?_; clear hK K; (try simp only [Act.put, List.setIfInBounds_toArray, List.set_cons_zero, List.set_cons_succ])
                  generalize (World.setCells _ (w21.heap.size) 0 [.slice A9 n9 c9, .slice B9 m9 d9]) = W9 at *
                  generalize (w21.heap.size) = go at *
                  refine wpAnyH_take (i := 24) (v := ?_) rfl (by kernel_rfl) (by kernel_rfl) (by kernel_rfl) (fun _ _ _ h => h) (Or.inl ⟨by rfl, ?_⟩) (by assumption) ?_; rotate_left 1; (focus (intro w hSw; (try dsimp only at hSw); obtain ⟨y0, y1, y2, y3⟩ := hSw; go_simp; (try with_reducible rfl))); (try simp only [Act.put, List.setIfInBounds_toArray, List.set_cons_zero, List.set_cons_succ])
                  refine wpAnyH_done (by kernel_rfl) ?_ _
                rotate_left 1
              rotate_left 2
              focus
                have N21 := Lib.hid (N20.out.step ((Ext.refl (w20)).alloc (.cells #[.slice none 0 0, .slice none 0 0] 27)))
                have zn21 : gt ≠ w20.heap.size := by have h9 := (N20.out.box.lt gt rfl).2; (try simp only [World.size_alloc, World.size_drew] at h9); omega
                have zr21 : w0.heap.size ≠ w20.heap.size := by have h9 := (N20.out.res.lt _ rfl).2; (try simp only [World.size_alloc, World.size_drew] at h9); omega
                have ob21 := own_low' (own_block (w20) 27 [.slice none 0 0, .slice none 0 0]) N20.out.grown.size
                (try simp only [World.size_alloc, World.size_drew] at ob21)
                have oh21 := Lib.hid ob21
                clear ob21
                go_simp; (try simp only [Act.put, List.setIfInBounds_toArray, List.set_cons_zero, List.set_cons_succ]); (try go_wp2_with fail); refine hK.out _ _ ⟨own_at N21.out.box (j := 0) rfl, own_at N21.out.box (j := 1) rfl, own_at N21.out.rs (j := a) hja, own_at N21.out.rs (j := bb) hjb⟩ fun hHeld => ?_; clear hK K; (try simp only [Act.put, List.setIfInBounds_toArray, List.set_cons_zero, List.set_cons_succ])
                refine wpAnyH_ready (rs := [16]) (by kernel_rfl) (by simp) ?_; refine AllReadyH.cons rfl (fun K hK => ?_) AllReadyH.nil; go_simp; (try simp only [Act.put, List.setIfInBounds_toArray, List.set_cons_zero, List.set_cons_succ]); (try go_wp2_with (go_at_call 31; refine (pick_any g _ vb _ N21.out.cur (by omega) (by omega)).mono ?_; rintro e w22 ⟨v, rfl, ⟨y, rfl, y0, y1⟩, C22, G22⟩; have N22 := Lib.hid (N21.out.draw C22 G22))); refine hK.out _ _ ⟨own_at N22.out.box (j := 0) rfl, own_at N22.out.box (j := 1) rfl, own_at N22.out.rs (j := a) hja, own_at N22.out.rs (j := bb) hjb⟩ fun hHeld => ?_; clear hK K; (try simp only [Act.put, List.setIfInBounds_toArray, List.set_cons_zero, List.set_cons_succ])
                have ob22 := Lib.hid (oh21.out.kept G22 (own_cur oh21.out N21.out.hg))
                clear C22 G22
                refine wpAnyH_take (i := 17) (v := ?_) rfl (by kernel_rfl) (by kernel_rfl) (by kernel_rfl) (fun _ _ _ h => h) (Or.inl ⟨by rfl, ?_⟩) (by assumption) ?_; rotate_left 1; (focus (intro w hSw; (try dsimp only at hSw); obtain ⟨y0, y1, y2, y3⟩ := hSw; go_simp; (try with_reducible rfl))); (try simp only [Act.put, List.setIfInBounds_toArray, List.set_cons_zero, List.set_cons_succ])
                have HB := Lib.hid (show BanSm ⟨a, x, bb, y⟩ from ⟨smI (a : Int) (by omega) (by omega), smI x (by omega) (by omega), smI (bb : Int) (by omega) (by omega), smI y (by omega) (by omega)⟩)
                refine wpAnyH_ready (rs := [18]) (by kernel_rfl) (by simp) ?_; refine AllReadyH.cons rfl (fun K hK => ?_) AllReadyH.nil; go_simp; (try simp only [Act.put, List.setIfInBounds_toArray, List.set_cons_zero, List.set_cons_succ]); (try go_wp2_with (go_at_call 18; refine (AddBanS_any ⟨q, 0, none⟩ n c q2 0 m d ss bs ⟨a, x, bb, y⟩ _ (N22.out.tab hss hbs (by omega) (by omega)) (own_le N22.out.rb) (HB.out).wf).mono ?_; rintro e w23 ⟨A9, n9, c9, B9, m9, d9, rfl, q9, p9, e9⟩; have N23 := Lib.hid (N22.out.step e9))); refine hK.out _ _ ⟨own_at N23.out.box (j := 0) rfl, own_at N23.out.box (j := 1) rfl, own_at N23.out.rs (j := a) hja, own_at N23.out.rs (j := bb) hjb⟩ fun hHeld => ?_; clear hK K; (try simp only [Act.put, List.setIfInBounds_toArray, List.set_cons_zero, List.set_cons_succ])
                have rs23 := Lib.hid (own_low' q9 N22.out.grown.size)
                have rb23 := Lib.hid (own_low' p9 N22.out.grown.size)
                have ob23 := Lib.hid (e9.own ob22.out)
                clear q9 p9 e9
                refine wpAnyH_take (i := 19) (v := ?_) rfl (by kernel_rfl) (by kernel_rfl) (by kernel_rfl) (fun _ _ _ h => h) (Or.inl ⟨by rfl, ?_⟩) (by assumption) ?_; rotate_left 1; (focus (intro w hSw; (try dsimp only at hSw); obtain ⟨y0, y1, y2, y3⟩ := hSw; go_simp; (try with_reducible rfl))); (try simp only [Act.put, List.setIfInBounds_toArray, List.set_cons_zero, List.set_cons_succ])
                refine wpAnyH_take (i := 20) (v := ?_) rfl (by kernel_rfl) (by kernel_rfl) (by kernel_rfl) (fun _ _ _ h => h) (Or.inl ⟨by rfl, ?_⟩) (by assumption) ?_; rotate_left 1; (focus (intro w hSw; (try dsimp only at hSw); obtain ⟨y0, y1, y2, y3⟩ := hSw; go_simp; (try with_reducible rfl))); (try simp only [Act.put, List.setIfInBounds_toArray, List.set_cons_zero, List.set_cons_succ])
                refine wpAnyH_take (i := 21) (v := ?_) rfl (by kernel_rfl) (by kernel_rfl) (by kernel_rfl) (fun _ _ _ h => h) (Or.inl ⟨by rfl, ?_⟩) (by assumption) ?_; rotate_left 1; (focus (intro w hSw; (try dsimp only at hSw); obtain ⟨y0, y1, y2, y3⟩ := hSw; go_simp; (try with_reducible rfl))); (try simp only [Act.put, List.setIfInBounds_toArray, List.set_cons_zero, List.set_cons_succ])
                obtain ⟨t0, t1, tg⟩ := tab_stored ob23.out (.slice A9 n9 c9) (.slice B9 m9 d9)
                have NX := Lib.hid (N23.out.other ob23.out zn21 zr21 tg)
                have RX := Lib.hid (rs23.out.kept tg (own_types rs23.out ob23.out (fun e => tabInt e.symm)))
                have BX := Lib.hid (rb23.out.kept tg (own_types rb23.out ob23.out banTab))
                refine wpAnyH_ready (rs := [23]) (by kernel_rfl) (by simp) ?_; refine AllReadyH.cons rfl (fun K hK => ?_) AllReadyH.nil; refine step_store rfl 27 (.tmp 8) (.tmp 77) rfl (w20.heap.size) 0 [.slice A9 n9 c9, .slice B9 m9 d9] rfl rfl (own_there ob23.out 0 2 (by simp)) sizeTab rfl rfl ?_; refine hK.out _ _ ⟨own_at NX.out.box (j := 0) rfl, own_at NX.out.box (j := 1) rfl, own_at NX.out.rs (j := a) hja, own_at NX.out.rs (j := bb) hjb⟩ fun hHeld => ?_; clear hK K; (try simp only [Act.put, List.setIfInBounds_toArray, List.set_cons_zero, List.set_cons_succ])
                generalize (World.setCells _ (w20.heap.size) 0 [.slice A9 n9 c9, .slice B9 m9 d9]) = W9 at *
                generalize (w20.heap.size) = go at *
                refine wpAnyH_take (i := 24) (v := ?_) rfl (by kernel_rfl) (by kernel_rfl) (by kernel_rfl) (fun _ _ _ h => h) (Or.inl ⟨by rfl, ?_⟩) (by assumption) ?_; rotate_left 1; (focus (intro w hSw; (try dsimp only at hSw); obtain ⟨y0, y1, y2, y3⟩ := hSw; go_simp; (try with_reducible rfl))); (try simp only [Act.put, List.setIfInBounds_toArray, List.set_cons_zero, List.set_cons_succ])
                refine wpAnyH_done (by kernel_rfl) ?_ _
              rotate_left 1
            rotate_left 3
            focus
              have N20 := Lib.hid (N5.out.step ((Ext.refl (w4.drew)).alloc (.cells #[.slice none 0 0, .slice none 0 0] 27)))
              have zn20 : gt ≠ w4.heap.size := by have h9 := (N5.out.box.lt gt rfl).2; (try simp only [World.size_alloc, World.size_drew] at h9); omega
              have zr20 : w0.heap.size ≠ w4.heap.size := by have h9 := (N5.out.res.lt _ rfl).2; (try simp only [World.size_alloc, World.size_drew] at h9); omega
              have ob20 := own_low' (own_block (w4.drew) 27 [.slice none 0 0, .slice none 0 0]) N5.out.grown.size
              (try simp only [World.size_alloc, World.size_drew] at ob20)
              have oh20 := Lib.hid ob20
              clear ob20
              go_simp; (try simp only [Act.put, List.setIfInBounds_toArray, List.set_cons_zero, List.set_cons_succ]); (try go_wp2_with fail); refine hK.out _ _ ⟨own_at N20.out.box (j := 0) rfl, own_at N20.out.box (j := 1) rfl, own_at N20.out.rs (j := a) hja, own_at N20.out.rs (j := bb) hjb⟩ fun hHeld => ?_; clear hK K; (try simp only [Act.put, List.setIfInBounds_toArray, List.set_cons_zero, List.set_cons_succ])
              refine wpAnyH_ready (rs := [8]) (by kernel_rfl) (by simp) ?_; refine AllReadyH.cons rfl (fun K hK => ?_) AllReadyH.nil; go_simp; (try simp only [Act.put, List.setIfInBounds_toArray, List.set_cons_zero, List.set_cons_succ]); (try go_wp2_with (go_at_call 31; refine (pick_any g _ va _ N20.out.cur (by omega) (by omega)).mono ?_; rintro e w21 ⟨v, rfl, ⟨x, rfl, x0, x1⟩, C21, G21⟩; have N21 := Lib.hid (N20.out.draw C21 G21))); refine hK.out _ _ ⟨own_at N21.out.box (j := 0) rfl, own_at N21.out.box (j := 1) rfl, own_at N21.out.rs (j := a) hja, own_at N21.out.rs (j := bb) hjb⟩ fun hHeld => ?_; clear hK K; (try simp only [Act.put, List.setIfInBounds_toArray, List.set_cons_zero, List.set_cons_succ])
              have ob21 := Lib.hid (oh20.out.kept G21 (own_cur oh20.out N20.out.hg))
              clear C21 G21
              refine wpAnyH_ready (rs := [16]) (by kernel_rfl) (by simp) ?_; refine AllReadyH.cons rfl (fun K hK => ?_) AllReadyH.nil; go_simp; (try simp only [Act.put, List.setIfInBounds_toArray, List.set_cons_zero, List.set_cons_succ]); (try go_wp2_with (go_at_call 31; refine (pick_any g _ vb _ N21.out.cur (by omega) (by omega)).mono ?_; rintro e w22 ⟨v, rfl, ⟨y, rfl, y0, y1⟩, C22, G22⟩; have N22 := Lib.hid (N21.out.draw C22 G22))); refine hK.out _ _ ⟨own_at N22.out.box (j := 0) rfl, own_at N22.out.box (j := 1) rfl, own_at N22.out.rs (j := a) hja, own_at N22.out.rs (j := bb) hjb⟩ fun hHeld => ?_; clear hK K; (try simp only [Act.put, List.setIfInBounds_toArray, List.set_cons_zero, List.set_cons_succ])
              have ob22 := Lib.hid (ob21.out.kept G22 (own_cur ob21.out N21.out.hg))
              clear C22 G22
              refine wpAnyH_take (i := 17) (v := ?_) rfl (by kernel_rfl) (by kernel_rfl) (by kernel_rfl) (fun _ _ _ h => h) (Or.inl ⟨by rfl, ?_⟩) (by assumption) ?_; rotate_left 1; (focus (intro w hSw; (try dsimp only at hSw); obtain ⟨y0, y1, y2, y3⟩ := hSw; go_simp; (try with_reducible rfl))); (try simp only [Act.put, List.setIfInBounds_toArray, List.set_cons_zero, List.set_cons_succ])
              have HB := Lib.hid (show BanSm ⟨a, x, bb, y⟩ from ⟨smI (a : Int) (by omega) (by omega), smI x (by omega) (by omega), smI (bb : Int) (by omega) (by omega), smI y (by omega) (by omega)⟩)
              refine wpAnyH_ready (rs := [18]) (by kernel_rfl) (by simp) ?_; refine AllReadyH.cons rfl (fun K hK => ?_) AllReadyH.nil; go_simp; (try simp only [Act.put, List.setIfInBounds_toArray, List.set_cons_zero, List.set_cons_succ]); (try go_wp2_with (go_at_call 18; refine (AddBanS_any ⟨q, 0, none⟩ n c q2 0 m d ss bs ⟨a, x, bb, y⟩ _ (N22.out.tab hss hbs (by omega) (by omega)) (own_le N22.out.rb) (HB.out).wf).mono ?_; rintro e w23 ⟨A9, n9, c9, B9, m9, d9, rfl, q9, p9, e9⟩; have N23 := Lib.hid (N22.out.step e9))); refine hK.out _ _ ⟨own_at N23.out.box (j := 0) rfl, own_at N23.out.box (j := 1) rfl, own_at N23.out.rs (j := a) hja, own_at N23.out.rs (j := bb) hjb⟩ fun hHeld => ?_; clear hK K; (try simp only [Act.put, List.setIfInBounds_toArray, List.set_cons_zero, List.set_cons_succ])
              have rs23 := Lib.hid (own_low' q9 N22.out.grown.size)
              have rb23 := Lib.hid (own_low' p9 N22.out.grown.size)
              have ob23 := Lib.hid (e9.own ob22.out)
              clear q9 p9 e9
              refine wpAnyH_take (i := 19) (v := ?_) rfl (by kernel_rfl) (by kernel_rfl) (by kernel_rfl) (fun _ _ _ h => h) (Or.inl ⟨by rfl, ?_⟩) (by assumption) ?_; rotate_left 1; (focus (intro w hSw; (try dsimp only at hSw); obtain ⟨y0, y1, y2, y3⟩ := hSw; go_simp; (try with_reducible rfl))); (try simp only [Act.put, List.setIfInBounds_toArray, List.set_cons_zero, List.set_cons_succ])
              refine wpAnyH_take (i := 20) (v := ?_) rfl (by kernel_rfl) (by kernel_rfl) (by kernel_rfl) (fun _ _ _ h => h) (Or.inl ⟨by rfl, ?_⟩) (by assumption) ?_; rotate_left 1; (focus (intro w hSw; (try dsimp only at hSw); obtain ⟨y0, y1, y2, y3⟩ := hSw; go_simp; (try with_reducible rfl))); (try simp only [Act.put, List.setIfInBounds_toArray, List.set_cons_zero, List.set_cons_succ])
              refine wpAnyH_take (i := 21) (v := ?_) rfl (by kernel_rfl) (by kernel_rfl) (by kernel_rfl) (fun _ _ _ h => h) (Or.inl ⟨by rfl, ?_⟩) (by assumption) ?_; rotate_left 1; (focus (intro w hSw; (try dsimp only at hSw); obtain ⟨y0, y1, y2, y3⟩ := hSw; go_simp; (try with_reducible rfl))); (try simp only [Act.put, List.setIfInBounds_toArray, List.set_cons_zero, List.set_cons_succ])
              obtain ⟨t0, t1, tg⟩ := tab_stored ob23.out (.slice A9 n9 c9) (.slice B9 m9 d9)
              have NX := Lib.hid (N23.out.other ob23.out zn20 zr20 tg)
              have RX := Lib.hid (rs23.out.kept tg (own_types rs23.out ob23.out (fun e => tabInt e.symm)))
              have BX := Lib.hid (rb23.out.kept tg (own_types rb23.out ob23.out banTab))
              refine wpAnyH_ready (rs := [23]) (by kernel_rfl) (by simp) ?_; refine AllReadyH.cons rfl (fun K hK => ?_) AllReadyH.nil; refine step_store rfl 27 (.tmp 8) (.tmp 77) rfl (w4.heap.size) 0 [.slice A9 n9 c9, .slice B9 m9 d9] rfl rfl (own_there ob23.out 0 2 (by simp)) sizeTab rfl rfl ?_; refine hK.out _ _ ⟨own_at NX.out.box (j := 0) rfl, own_at NX.out.box (j := 1) rfl, own_at NX.out.rs (j := a) hja, own_at NX.out.rs (j := bb) hjb⟩ fun hHeld => ?_; clear hK K; (try simp only [Act.put, List.setIfInBounds_toArray, List.set_cons_zero, List.set_cons_succ])
              generalize (World.setCells _ (w4.heap.size) 0 [.slice A9 n9 c9, .slice B9 m9 d9]) = W9 at *
              generalize (w4.heap.size) = go at *
              refine wpAnyH_take (i := 24) (v := ?_) rfl (by kernel_rfl) (by kernel_rfl) (by kernel_rfl) (fun _ _ _ h => h) (Or.inl ⟨by rfl, ?_⟩) (by assumption) ?_; rotate_left 1; (focus (intro w hSw; (try dsimp only at hSw); obtain ⟨y0, y1, y2, y3⟩ := hSw; go_simp; (try with_reducible rfl))); (try simp only [Act.put, List.setIfInBounds_toArray, List.set_cons_zero, List.set_cons_succ])
              refine wpAnyH_done (by kernel_rfl) ?_ _
            rotate_left 1
            all_goals
              (try simp only [List.getElem_toArray, List.getElem_cons_succ, List.getElem_cons_zero, List.setIfInBounds_toArray, List.set_cons_succ, List.set_cons_zero])
              have hrl := RX.out.1
              rw [ints_length] at hrl
              have hbl := BX.out.1
              rw [flat_length Ban.cs 4 Ban.len] at hbl
              have hml : bs.length = m := by have := N4.out.rb.1; rw [flat_length Ban.cs 4 Ban.len] at this; omega
              have HBs := Lib.hid (show ∀ z ∈ insB bs ⟨a, x, bb, y⟩, BanSm z from fun z hz => by
                unfold insB at hz
                rcases List.mem_append.1 hz with hz | hz
                · exact hbs.out z (List.mem_of_mem_take hz)
                · rcases List.mem_cons.1 hz with rfl | hz
                  · exact HB.out
                  · exact hbs.out z (List.mem_of_mem_drop hz))
              have zgo : go < W9.heap.size := World.block_lt_of_cell? W9 _ t0
              cases hok : okA ss bs ⟨a, x, bb, y⟩
              · go_wp2
                go_roundw
                case rel => exact ⟨k - 1, _, n, c, _, m, d, ss, bs, by go_num, by omega, hn4, by omega, hss, hbs, ⟨q, rfl⟩, ⟨q2, rfl⟩, NX.out.mono (by omega)⟩
                case measure => simp [intOf]; omega
              · rw [hok, if_pos rfl] at RX BX hrl hbl
                have hm9 : m9 = m + 1 := by rw [insB_len] at hbl; omega
                have hn9 : n9 = n := by omega
                have hA9 : ∃ q9, A9 = some ⟨q9, 0, none⟩ := by
                  obtain ⟨q9, cap, hv, _⟩ := RX.out.form (by omega)
                  injection hv with hv
                  exact ⟨q9, hv⟩
                have hB9 : ∃ q9, B9 = some ⟨q9, 0, none⟩ := by
                  obtain ⟨q9, cap, hv, _⟩ := BX.out.form (by omega)
                  injection hv with hv
                  exact ⟨q9, hv⟩
                have HM9 := Lib.hid hm9
                have HN9 := Lib.hid hn9
                clear hm9 hn9 hrl hbl hok
                go_wp2_with (refine wpList_store_own rfl 27 (.tmp 3) (.tmp 80) rfl gt 0 [.slice A9 n9 c9, .slice B9 m9 d9] rfl rfl w0.heap.size 27 2 1 1 _ NX.out.box (by simp) sizeTab rfl ?_; intro w8 ho8 hg8)
                have NR := Lib.hid (NX.out.replaced RX.out BX.out ho8 hg8)
                go_roundw
                case rel => exact ⟨k - 1, A9, n9, c9, B9, m9, d9, ss, insB bs ⟨a, x, bb, y⟩, by go_num, by omega, by have := HN9.out; omega, by have := HM9.out; omega, hss, HBs.out, hA9, hB9, NR.out.mono (by omega)⟩
                case measure => simp [intOf]; omega
          · have hnd : decide ((1 : Int) < (n : Int)) = false := by simp; omega
            have hnd2 : decide (1 < n) = false := by simp; omega
            go_wp2
            go_meet
            exact ⟨_, n, c, _, m, d, ss, bs, hn4, by omega, hss, hbs, ⟨q, rfl⟩, ⟨q2, rfl⟩, N1.out.mono (by omega)⟩
        · obtain rfl : k = 0 := by omega
          go_wp2
          go_meet
          exact ⟨_, n, c, _, m, d, ss, bs, hn4, by omega, hss, hbs, ⟨q, rfl⟩, ⟨q2, rfl⟩, N1.out.mono (by omega)⟩
    case rest =>
      obtain ⟨A, n, c, B, m, d, ss, bs, hn4, hm5, hss, hbs, hA, hB, hst⟩ := hcut
      have N1 := Lib.hid hst
      clear hst N2 hr5
      go_wp2_with fail
      refine (pick_any g _ 32 _ N1.out.cur (by omega) (by omega)).mono ?_
      rintro e w2 ⟨v, rfl, ⟨r, rfl, r0, r1⟩, C2, G2⟩
      have N2 := Lib.hid (N1.out.draw C2 G2)
      clear C2 G2 N1
      by_cases e0 : r = 0
      · subst e0
        go_wp2
        refine wp_region_held_drew (S := fun _ => True) (by kernel_rfl) trivial (fun hHeld => ?_)
        have N3 := Lib.hid (N2.out.step (Ext.refl w2).drew)
        refine wpAnyH_take (i := 0) (v := ?_) rfl (by kernel_rfl) (by kernel_rfl) (by kernel_rfl) (fun _ _ _ h => h) (Or.inl ⟨by rfl, ?_⟩) trivial ?_; rotate_left 1; (focus (intro w hSw; go_simp; (try with_reducible rfl))); (try simp only [Act.put, List.setIfInBounds_toArray, List.set_cons_zero, List.set_cons_succ])
        refine wpAnyH_take (i := 2) (v := ?_) rfl (by kernel_rfl) (by kernel_rfl) (by kernel_rfl) (fun _ _ _ h => h) (Or.inl ⟨by rfl, ?_⟩) trivial ?_; rotate_left 1; (focus (intro w hSw; go_simp; (try with_reducible rfl))); (try simp only [Act.put, List.setIfInBounds_toArray, List.set_cons_zero, List.set_cons_succ])
        refine wpAnyH_ready (rs := [1, 3]) (by kernel_rfl) (by simp) ?_; refine AllReadyH.cons rfl (fun K hK => ?_) (AllReadyH.cons rfl (fun K hK => ?_) (AllReadyH.nil))
        focus
          have cx1 := own_at N3.out.box (j := 0) rfl
          have cz1 : gt < w2.heap.size := by have h9 := World.block_lt_of_cell? w2.drew _ cx1; (try simp only [World.size_alloc, World.size_drew] at h9); exact h9
          go_simp; (try simp only [Act.put, List.setIfInBounds_toArray, List.set_cons_zero, List.set_cons_succ]); (try go_wp2_with fail); refine hK.out _ _ trivial fun _ => ?_; clear hK K; (try simp only [Act.put, List.setIfInBounds_toArray, List.set_cons_zero, List.set_cons_succ])
          clear cx1 cz1
          have N2 := Lib.hid (N3.out.step ((Ext.refl (w2.drew)).alloc (.cells #[.int .i64 0, .int .i64 5, .int .i64 6] 3)))
          refine wpAnyH_ready (rs := [3]) (by kernel_rfl) (by simp) ?_; refine AllReadyH.cons rfl (fun K hK => ?_) AllReadyH.nil; go_simp; (try simp only [Act.put, List.setIfInBounds_toArray, List.set_cons_zero, List.set_cons_succ]); (try go_wp2_with fail); refine hK.out _ _ trivial fun _ => ?_; clear hK K; (try simp only [Act.put, List.setIfInBounds_toArray, List.set_cons_zero, List.set_cons_succ])
          have ol2 := own_list (w2.drew) 3 [0, 5, 6]
          (try simp only [World.size_alloc, World.size_drew] at ol2)
          have OL := Lib.hid ol2
          clear ol2
          have zg : g < w2.heap.size := by have h9 := N3.out.cur.lt; (try simp only [World.size_alloc, World.size_drew] at h9); exact h9
          refine wpAnyH_ready (rs := [4]) (by kernel_rfl) (by simp) ?_; refine AllReadyH.cons rfl (fun K hK => ?_) AllReadyH.nil; go_simp; (try simp only [Act.put, List.setIfInBounds_toArray, List.set_cons_zero, List.set_cons_succ]); (try go_wp2_with (go_at_call 49; refine (among_any g _ _ 3 3 [0, 5, 6] 0 6 _ N2.out.cur (by decide) (by omega) (by omega) (by omega) (Rd.own OL.out) (Off.ne (by omega))).mono ?_; rintro e w3 ⟨v, rfl, ⟨u, rfl, u0, u1⟩, C3, G3⟩)); refine hK.out _ _ trivial fun _ => ?_; clear hK K; (try simp only [Act.put, List.setIfInBounds_toArray, List.set_cons_zero, List.set_cons_succ])
          have N3 := Lib.hid (N2.out.draw C3 G3)
          clear C3 G3
          have N4 := Lib.hid (N3.out.step ((Ext.refl (w3)).alloc (.cells #[.int .i64 u] 3)))
          refine wpAnyH_ready (rs := [5]) (by kernel_rfl) (by simp) ?_; refine AllReadyH.cons rfl (fun K hK => ?_) AllReadyH.nil; go_simp; (try simp only [Act.put, List.setIfInBounds_toArray, List.set_cons_zero, List.set_cons_succ]); (try go_wp2_with fail); refine hK.out _ _ trivial fun _ => ?_; clear hK K; (try simp only [Act.put, List.setIfInBounds_toArray, List.set_cons_zero, List.set_cons_succ])
          refine wpAnyH_ready (rs := [6]) (by kernel_rfl) (by simp) ?_; refine AllReadyH.cons rfl (fun K hK => ?_) AllReadyH.nil; refine step_app_own rfl (.tmp 86) (.tmp 90) 24 rfl w0.heap.size 3 i0 (.int .i64 0) 1 8 Try.underlying24 hi0 hz0v hzz1 hzz2 rfl (by decide) (.slice A n c) n (ints ss) rfl N4.out.rs ⟨w3.heap.size, 0, none⟩ 1 1 [.int .i64 u] rfl rfl (fun j u' hj => by rw [Addr.add_mid, Nat.zero_add]; exact one_int _ _ _ _ (by simp) hj) (one_intc _) (by unfold maxLen; omega) (by omega) N4.out.grown.size 91 rfl (n + 1) rfl (ints (ss ++ [u])) (ints_snoc _ _) ?_; intro A9 c9 w9 op9 gp9; (try simp only [Act.put, List.setIfInBounds_toArray, List.set_cons_zero, List.set_cons_succ]); refine hK.out _ _ trivial fun _ => ?_; clear hK K; (try simp only [Act.put, List.setIfInBounds_toArray, List.set_cons_zero, List.set_cons_succ])
          have B9 := Lib.hid (N4.out.box.kept gp9 (own_types N4.out.box N4.out.rs tabInt))
          have NS := Lib.hid (N4.out.sized op9 gp9)
          clear op9 gp9
          refine wpAnyH_take (i := 7) (v := ?_) rfl (by kernel_rfl) (by kernel_rfl) (by kernel_rfl) (fun _ _ _ h => h) (Or.inl ⟨by rfl, ?_⟩) trivial ?_; rotate_left 1; (focus (intro w hSw; go_simp; (try with_reducible rfl))); (try simp only [Act.put, List.setIfInBounds_toArray, List.set_cons_zero, List.set_cons_succ])
          have cx9 := own_at B9.out (j := 0) rfl
          have cz9 : gt < w9.heap.size := World.block_lt_of_cell? w9 _ cx9
          have cf9 := B9.out.frozenAt 0
          refine wpAnyH_ready (rs := [8]) (by kernel_rfl) (by simp) ?_; refine AllReadyH.cons rfl (fun K hK => ?_) AllReadyH.nil; go_simp; (try simp only [Act.put, List.setIfInBounds_toArray, List.set_cons_zero, List.set_cons_succ]); (try go_wp2_with fail); refine hK.out _ _ trivial fun _ => ?_; clear hK K; (try simp only [Act.put, List.setIfInBounds_toArray, List.set_cons_zero, List.set_cons_succ])
          clear cx9 cz9 cf9
          refine wpAnyH_done (by kernel_rfl) ?_ _
        rotate_left 1
        focus
          have N1 := Lib.hid (N3.out.step ((Ext.refl (w2.drew)).alloc (.cells #[.int .i64 0, .int .i64 5, .int .i64 6] 3)))
          go_simp; (try simp only [Act.put, List.setIfInBounds_toArray, List.set_cons_zero, List.set_cons_succ]); (try go_wp2_with fail); refine hK.out _ _ trivial fun _ => ?_; clear hK K; (try simp only [Act.put, List.setIfInBounds_toArray, List.set_cons_zero, List.set_cons_succ])
          have ol1 := own_list (w2.drew) 3 [0, 5, 6]
          (try simp only [World.size_alloc, World.size_drew] at ol1)
          have OL := Lib.hid ol1
          clear ol1
          have zg : g < w2.heap.size := by have h9 := N3.out.cur.lt; (try simp only [World.size_alloc, World.size_drew] at h9); exact h9
          refine wpAnyH_ready (rs := [1, 4]) (by kernel_rfl) (by simp) ?_; refine AllReadyH.cons rfl (fun K hK => ?_) (AllReadyH.cons rfl (fun K hK => ?_) (AllReadyH.nil))
          focus
            have cx2 := own_at N1.out.box (j := 0) rfl
            have cz2 : gt < w2.heap.size + 1 := by have h9 := World.block_lt_of_cell? (w2.drew.alloc (.cells #[.int .i64 0, .int .i64 5, .int .i64 6] 3)) _ cx2; (try simp only [World.size_alloc, World.size_drew] at h9); exact h9
            have cy2 := own_at N3.out.box (j := 0) rfl
            have cu2 : gt < w2.heap.size := by have h9 := World.block_lt_of_cell? w2.drew _ cy2; (try simp only [World.size_alloc, World.size_drew] at h9); exact h9
            have cv2 : ¬ gt = w2.heap.size := by omega
            have ct2 : w2.cell? ⟨gt, 0, none⟩ = some (.slice A n c) := cy2
            go_simp; (try simp only [Act.put, List.setIfInBounds_toArray, List.set_cons_zero, List.set_cons_succ]); (try go_wp2_with fail); refine hK.out _ _ trivial fun _ => ?_; clear hK K; (try simp only [Act.put, List.setIfInBounds_toArray, List.set_cons_zero, List.set_cons_succ])
            clear cx2 cz2 cy2 cu2 cv2 ct2
            refine wpAnyH_ready (rs := [4]) (by kernel_rfl) (by simp) ?_; refine AllReadyH.cons rfl (fun K hK => ?_) AllReadyH.nil; go_simp; (try simp only [Act.put, List.setIfInBounds_toArray, List.set_cons_zero, List.set_cons_succ]); (try go_wp2_with (go_at_call 49; refine (among_any g _ _ 3 3 [0, 5, 6] 0 6 _ N1.out.cur (by decide) (by omega) (by omega) (by omega) (Rd.own OL.out) (Off.ne (by omega))).mono ?_; rintro e w3 ⟨v, rfl, ⟨u, rfl, u0, u1⟩, C3, G3⟩)); refine hK.out _ _ trivial fun _ => ?_; clear hK K; (try simp only [Act.put, List.setIfInBounds_toArray, List.set_cons_zero, List.set_cons_succ])
            have N3 := Lib.hid (N1.out.draw C3 G3)
            clear C3 G3
            have N4 := Lib.hid (N3.out.step ((Ext.refl (w3)).alloc (.cells #[.int .i64 u] 3)))
            refine wpAnyH_ready (rs := [5]) (by kernel_rfl) (by simp) ?_; refine AllReadyH.cons rfl (fun K hK => ?_) AllReadyH.nil; go_simp; (try simp only [Act.put, List.setIfInBounds_toArray, List.set_cons_zero, List.set_cons_succ]); (try go_wp2_with fail); refine hK.out _ _ trivial fun _ => ?_; clear hK K; (try simp only [Act.put, List.setIfInBounds_toArray, List.set_cons_zero, List.set_cons_succ])
            refine wpAnyH_ready (rs := [6]) (by kernel_rfl) (by simp) ?_; refine AllReadyH.cons rfl (fun K hK => ?_) AllReadyH.nil; refine step_app_own rfl (.tmp 86) (.tmp 90) 24 rfl w0.heap.size 3 i0 (.int .i64 0) 1 8 Try.underlying24 hi0 hz0v hzz1 hzz2 rfl (by decide) (.slice A n c) n (ints ss) rfl N4.out.rs ⟨w3.heap.size, 0, none⟩ 1 1 [.int .i64 u] rfl rfl (fun j u' hj => by rw [Addr.add_mid, Nat.zero_add]; exact one_int _ _ _ _ (by simp) hj) (one_intc _) (by unfold maxLen; omega) (by omega) N4.out.grown.size 91 rfl (n + 1) rfl (ints (ss ++ [u])) (ints_snoc _ _) ?_; intro A9 c9 w9 op9 gp9; (try simp only [Act.put, List.setIfInBounds_toArray, List.set_cons_zero, List.set_cons_succ]); refine hK.out _ _ trivial fun _ => ?_; clear hK K; (try simp only [Act.put, List.setIfInBounds_toArray, List.set_cons_zero, List.set_cons_succ])
            have B9 := Lib.hid (N4.out.box.kept gp9 (own_types N4.out.box N4.out.rs tabInt))
            have NS := Lib.hid (N4.out.sized op9 gp9)
            clear op9 gp9
            refine wpAnyH_take (i := 7) (v := ?_) rfl (by kernel_rfl) (by kernel_rfl) (by kernel_rfl) (fun _ _ _ h => h) (Or.inl ⟨by rfl, ?_⟩) trivial ?_; rotate_left 1; (focus (intro w hSw; go_simp; (try with_reducible rfl))); (try simp only [Act.put, List.setIfInBounds_toArray, List.set_cons_zero, List.set_cons_succ])
            have cx9 := own_at B9.out (j := 0) rfl
            have cz9 : gt < w9.heap.size := World.block_lt_of_cell? w9 _ cx9
            have cf9 := B9.out.frozenAt 0
            refine wpAnyH_ready (rs := [8]) (by kernel_rfl) (by simp) ?_; refine AllReadyH.cons rfl (fun K hK => ?_) AllReadyH.nil; go_simp; (try simp only [Act.put, List.setIfInBounds_toArray, List.set_cons_zero, List.set_cons_succ]); (try go_wp2_with fail); refine hK.out _ _ trivial fun _ => ?_; clear hK K; (try simp only [Act.put, List.setIfInBounds_toArray, List.set_cons_zero, List.set_cons_succ])
            clear cx9 cz9 cf9
            refine wpAnyH_done (by kernel_rfl) ?_ _
          rotate_left 1
          focus
            go_simp; (try simp only [Act.put, List.setIfInBounds_toArray, List.set_cons_zero, List.set_cons_succ]); (try go_wp2_with (go_at_call 49; refine (among_any g _ _ 3 3 [0, 5, 6] 0 6 _ N1.out.cur (by decide) (by omega) (by omega) (by omega) (Rd.own OL.out) (Off.ne (by omega))).mono ?_; rintro e w2 ⟨v, rfl, ⟨u, rfl, u0, u1⟩, C2, G2⟩)); refine hK.out _ _ trivial fun _ => ?_; clear hK K; (try simp only [Act.put, List.setIfInBounds_toArray, List.set_cons_zero, List.set_cons_succ])
            have N2 := Lib.hid (N1.out.draw C2 G2)
            clear C2 G2
            refine wpAnyH_ready (rs := [1, 5]) (by kernel_rfl) (by simp) ?_; refine AllReadyH.cons rfl (fun K hK => ?_) (AllReadyH.cons rfl (fun K hK => ?_) (AllReadyH.nil))
            focus
              have cx3 := own_at N2.out.box (j := 0) rfl
              have cz3 : gt < w2.heap.size := by have h9 := World.block_lt_of_cell? w2 _ cx3; (try simp only [World.size_alloc, World.size_drew] at h9); exact h9
              go_simp; (try simp only [Act.put, List.setIfInBounds_toArray, List.set_cons_zero, List.set_cons_succ]); (try go_wp2_with fail); refine hK.out _ _ trivial fun _ => ?_; clear hK K; (try simp only [Act.put, List.setIfInBounds_toArray, List.set_cons_zero, List.set_cons_succ])
              clear cx3 cz3
              have N4 := Lib.hid (N2.out.step ((Ext.refl (w2)).alloc (.cells #[.int .i64 u] 3)))
              refine wpAnyH_ready (rs := [5]) (by kernel_rfl) (by simp) ?_; refine AllReadyH.cons rfl (fun K hK => ?_) AllReadyH.nil; go_simp; (try simp only [Act.put, List.setIfInBounds_toArray, List.set_cons_zero, List.set_cons_succ]); (try go_wp2_with fail); refine hK.out _ _ trivial fun _ => ?_; clear hK K; (try simp only [Act.put, List.setIfInBounds_toArray, List.set_cons_zero, List.set_cons_succ])
              refine wpAnyH_ready (rs := [6]) (by kernel_rfl) (by simp) ?_; refine AllReadyH.cons rfl (fun K hK => ?_) AllReadyH.nil; refine step_app_own rfl (.tmp 86) (.tmp 90) 24 rfl w0.heap.size 3 i0 (.int .i64 0) 1 8 Try.underlying24 hi0 hz0v hzz1 hzz2 rfl (by decide) (.slice A n c) n (ints ss) rfl N4.out.rs ⟨w2.heap.size, 0, none⟩ 1 1 [.int .i64 u] rfl rfl (fun j u' hj => by rw [Addr.add_mid, Nat.zero_add]; exact one_int _ _ _ _ (by simp) hj) (one_intc _) (by unfold maxLen; omega) (by omega) N4.out.grown.size 91 rfl (n + 1) rfl (ints (ss ++ [u])) (ints_snoc _ _) ?_; intro A9 c9 w9 op9 gp9; (try simp only [Act.put, List.setIfInBounds_toArray, List.set_cons_zero, List.set_cons_succ]); refine hK.out _ _ trivial fun _ => ?_; clear hK K; (try simp only [Act.put, List.setIfInBounds_toArray, List.set_cons_zero, List.set_cons_succ])
              have B9 := Lib.hid (N4.out.box.kept gp9 (own_types N4.out.box N4.out.rs tabInt))
              have NS := Lib.hid (N4.out.sized op9 gp9)
              clear op9 gp9
              refine wpAnyH_take (i := 7) (v := ?_) rfl (by kernel_rfl) (by kernel_rfl) (by kernel_rfl) (fun _ _ _ h => h) (Or.inl ⟨by rfl, ?_⟩) trivial ?_; rotate_left 1; (focus (intro w hSw; go_simp; (try with_reducible rfl))); (try simp only [Act.put, List.setIfInBounds_toArray, List.set_cons_zero, List.set_cons_succ])
              have cx9 := own_at B9.out (j := 0) rfl
              have cz9 : gt < w9.heap.size := World.block_lt_of_cell? w9 _ cx9
              have cf9 := B9.out.frozenAt 0
              refine wpAnyH_ready (rs := [8]) (by kernel_rfl) (by simp) ?_; refine AllReadyH.cons rfl (fun K hK => ?_) AllReadyH.nil; go_simp; (try simp only [Act.put, List.setIfInBounds_toArray, List.set_cons_zero, List.set_cons_succ]); (try go_wp2_with fail); refine hK.out _ _ trivial fun _ => ?_; clear hK K; (try simp only [Act.put, List.setIfInBounds_toArray, List.set_cons_zero, List.set_cons_succ])
              clear cx9 cz9 cf9
              refine wpAnyH_done (by kernel_rfl) ?_ _
            rotate_left 1
            focus
              have N3 := Lib.hid (N2.out.step ((Ext.refl (w2)).alloc (.cells #[.int .i64 u] 3)))
              go_simp; (try simp only [Act.put, List.setIfInBounds_toArray, List.set_cons_zero, List.set_cons_succ]); (try go_wp2_with fail); refine hK.out _ _ trivial fun _ => ?_; clear hK K; (try simp only [Act.put, List.setIfInBounds_toArray, List.set_cons_zero, List.set_cons_succ])
              have cx4 := own_at N3.out.box (j := 0) rfl
              have cz4 : gt < w2.heap.size + 1 := by have h9 := World.block_lt_of_cell? (w2.alloc (.cells #[.int .i64 u] 3)) _ cx4; (try simp only [World.size_alloc, World.size_drew] at h9); exact h9
              have cy4 := own_at N2.out.box (j := 0) rfl
              have cu4 : gt < w2.heap.size := by have h9 := World.block_lt_of_cell? w2 _ cy4; (try simp only [World.size_alloc, World.size_drew] at h9); exact h9
              have cv4 : ¬ gt = w2.heap.size := by omega
              refine wpAnyH_ready (rs := [1]) (by kernel_rfl) (by simp) ?_; refine AllReadyH.cons rfl (fun K hK => ?_) AllReadyH.nil; go_simp; (try simp only [Act.put, List.setIfInBounds_toArray, List.set_cons_zero, List.set_cons_succ]); (try go_wp2_with fail); refine hK.out _ _ trivial fun _ => ?_; clear hK K; (try simp only [Act.put, List.setIfInBounds_toArray, List.set_cons_zero, List.set_cons_succ])
              clear cx4 cz4 cy4 cu4 cv4
              refine wpAnyH_ready (rs := [6]) (by kernel_rfl) (by simp) ?_; refine AllReadyH.cons rfl (fun K hK => ?_) AllReadyH.nil; refine step_app_own rfl (.tmp 86) (.tmp 90) 24 rfl w0.heap.size 3 i0 (.int .i64 0) 1 8 Try.underlying24 hi0 hz0v hzz1 hzz2 rfl (by decide) (.slice A n c) n (ints ss) rfl N3.out.rs ⟨w2.heap.size, 0, none⟩ 1 1 [.int .i64 u] rfl rfl (fun j u' hj => by rw [Addr.add_mid, Nat.zero_add]; exact one_int _ _ _ _ (by simp) hj) (one_intc _) (by unfold maxLen; omega) (by omega) N3.out.grown.size 91 rfl (n + 1) rfl (ints (ss ++ [u])) (ints_snoc _ _) ?_; intro A9 c9 w9 op9 gp9; (try simp only [Act.put, List.setIfInBounds_toArray, List.set_cons_zero, List.set_cons_succ]); refine hK.out _ _ trivial fun _ => ?_; clear hK K; (try simp only [Act.put, List.setIfInBounds_toArray, List.set_cons_zero, List.set_cons_succ])
              have B9 := Lib.hid (N3.out.box.kept gp9 (own_types N3.out.box N3.out.rs tabInt))
              have NS := Lib.hid (N3.out.sized op9 gp9)
              clear op9 gp9
              refine wpAnyH_take (i := 7) (v := ?_) rfl (by kernel_rfl) (by kernel_rfl) (by kernel_rfl) (fun _ _ _ h => h) (Or.inl ⟨by rfl, ?_⟩) trivial ?_; rotate_left 1; (focus (intro w hSw; go_simp; (try with_reducible rfl))); (try simp only [Act.put, List.setIfInBounds_toArray, List.set_cons_zero, List.set_cons_succ])
              have cx9 := own_at B9.out (j := 0) rfl
              have cz9 : gt < w9.heap.size := World.block_lt_of_cell? w9 _ cx9
              have cf9 := B9.out.frozenAt 0
              refine wpAnyH_ready (rs := [8]) (by kernel_rfl) (by simp) ?_; refine AllReadyH.cons rfl (fun K hK => ?_) AllReadyH.nil; go_simp; (try simp only [Act.put, List.setIfInBounds_toArray, List.set_cons_zero, List.set_cons_succ]); (try go_wp2_with fail); refine hK.out _ _ trivial fun _ => ?_; clear hK K; (try simp only [Act.put, List.setIfInBounds_toArray, List.set_cons_zero, List.set_cons_succ])
              clear cx9 cz9 cf9
              refine wpAnyH_done (by kernel_rfl) ?_ _
            rotate_left 1
          rotate_left 2
        rotate_left 3
        all_goals
          (try simp only [List.getElem_toArray, List.getElem_cons_succ, List.getElem_cons_zero, List.setIfInBounds_toArray, List.set_cons_succ, List.set_cons_zero])
          have hA9 : ∃ q9, A9 = some ⟨q9, 0, none⟩ := by
            obtain ⟨q9, cap, hv, _⟩ := NS.out.rs.form (by omega)
            injection hv with hv
            exact ⟨q9, hv⟩
          have HSS := Lib.hid (show ∀ x ∈ ss ++ [u], 0 ≤ x ∧ x ≤ 6 from fun x hx => by
            rcases List.mem_append.1 hx with hx | hx
            · exact hss.out x hx
            · simp at hx; omega)
          have HF := Lib.hid (show KFin w0 g (b + 200) gt _ from ⟨A9, n + 1, c9, _, m, d, ss ++ [u], bs, by omega, by omega, HSS.out, hbs, hA9, .inr hB, NS.out.mono (by omega)⟩)
          clear NS B9
          generalize w9.setCell _ _ = WF at *
          obtain ⟨A, n, c, B, m, d, ss, bs, hn6, hm6, hss, hbs, hA, hB, hst⟩ := HF.out
          have N3 := Lib.hid hst
          have c0 := own_at N3.out.box (j := 0) rfl
          have c1 := own_at N3.out.box (j := 1) rfl
          have cz : gt < WF.heap.size := World.block_lt_of_cell? WF _ c0
          clear hst HF
          go_wp2_with (refine wpList_store_own rfl 27 (.tmp 2) (.tmp 124) rfl w0.heap.size 0 [.slice A n c, .slice B m d] rfl rfl w0.heap.size 27 2 1 1 _ N3.out.res (by simp) sizeTab rfl ?_; intro w9 ho9 hg9)
          have q0 := own_at ho9 (j := 0) rfl
          have q1 := own_at ho9 (j := 1) rfl
          exact bodyPost_ret (v := .agg #[.slice A n c, .slice B m d]) (by simp [results, Try.results30, go_sem, q0, q1]) rfl ⟨_, rfl, ⟨A, n, c, B, m, d, ss, bs, rfl, hn6, hm6, hss, hbs, hA, hB, N3.out.rs.kept hg9 (own_types N3.out.rs N3.out.res (fun e => tabInt e.symm)), N3.out.rb.kept hg9 (own_types N3.out.rb N3.out.res banTab)⟩, (N3.out.cur.kept hg9 (fun x hx => by injection hx with hx; have := N3.out.hg; omega)).mono (by omega), grown_new N3.out.grown hg9 (fun x hx => by injection hx with hx; omega)⟩
      · have d0 : (r == 0) = false := by simpa using e0
        have d0' : decide (r = 0) = false := by simpa using e0
        by_cases e1 : r = 1
        · subst e1
          go_wp2
          refine wp_region_held_drew (S := fun _ => True) (by kernel_rfl) trivial (fun hHeld => ?_)
          have N3 := Lib.hid (N2.out.step (Ext.refl w2).drew)
          refine wpAnyH_take (i := 0) (v := ?_) rfl (by kernel_rfl) (by kernel_rfl) (by kernel_rfl) (fun _ _ _ h => h) (Or.inl ⟨by rfl, ?_⟩) trivial ?_; rotate_left 1; (focus (intro w hSw; go_simp; (try with_reducible rfl))); (try simp only [Act.put, List.setIfInBounds_toArray, List.set_cons_zero, List.set_cons_succ])
          refine wpAnyH_take (i := 2) (v := ?_) rfl (by kernel_rfl) (by kernel_rfl) (by kernel_rfl) (fun _ _ _ h => h) (Or.inl ⟨by rfl, ?_⟩) trivial ?_; rotate_left 1; (focus (intro w hSw; go_simp; (try with_reducible rfl))); (try simp only [Act.put, List.setIfInBounds_toArray, List.set_cons_zero, List.set_cons_succ])
          refine wpAnyH_take (i := 4) (v := ?_) rfl (by kernel_rfl) (by kernel_rfl) (by kernel_rfl) (fun _ _ _ h => h) (Or.inl ⟨by rfl, ?_⟩) trivial ?_; rotate_left 1; (focus (intro w hSw; go_simp; (try with_reducible rfl))); (try simp only [Act.put, List.setIfInBounds_toArray, List.set_cons_zero, List.set_cons_succ])
          refine wpAnyH_take (i := 6) (v := ?_) rfl (by kernel_rfl) (by kernel_rfl) (by kernel_rfl) (fun _ _ _ h => h) (Or.inl ⟨by rfl, ?_⟩) trivial ?_; rotate_left 1; (focus (intro w hSw; go_simp; (try with_reducible rfl))); (try simp only [Act.put, List.setIfInBounds_toArray, List.set_cons_zero, List.set_cons_succ])
          refine wpAnyH_take (i := 8) (v := ?_) rfl (by kernel_rfl) (by kernel_rfl) (by kernel_rfl) (fun _ _ _ h => h) (Or.inl ⟨by rfl, ?_⟩) trivial ?_; rotate_left 1; (focus (intro w hSw; go_simp; (try with_reducible rfl))); (try simp only [Act.put, List.setIfInBounds_toArray, List.set_cons_zero, List.set_cons_succ])
          refine wpAnyH_ready (rs := [1, 3]) (by kernel_rfl) (by simp) ?_; refine AllReadyH.cons rfl (fun K hK => ?_) (AllReadyH.cons rfl (fun K hK => ?_) (AllReadyH.nil))
          focus
            have cx1 := own_at N3.out.box (j := 1) rfl
            have cz1 : gt < w2.heap.size := by have h9 := World.block_lt_of_cell? w2.drew _ cx1; (try simp only [World.size_alloc, World.size_drew] at h9); exact h9
            go_simp; (try simp only [Act.put, List.setIfInBounds_toArray, List.set_cons_zero, List.set_cons_succ]); (try go_wp2_with fail); refine hK.out _ _ trivial fun _ => ?_; clear hK K; (try simp only [Act.put, List.setIfInBounds_toArray, List.set_cons_zero, List.set_cons_succ])
            clear cx1 cz1
            refine wpAnyH_ready (rs := [3]) (by kernel_rfl) (by simp) ?_; refine AllReadyH.cons rfl (fun K hK => ?_) AllReadyH.nil; go_simp; (try simp only [Act.put, List.setIfInBounds_toArray, List.set_cons_zero, List.set_cons_succ]); (try go_wp2_with (go_at_call 31; refine (pick_any g _ 2 _ N3.out.cur (by omega) (by omega)).mono ?_; rintro e w2 ⟨v, rfl, ⟨a, rfl, a0, a1⟩, C2, G2⟩)); refine hK.out _ _ trivial fun _ => ?_; clear hK K; (try simp only [Act.put, List.setIfInBounds_toArray, List.set_cons_zero, List.set_cons_succ])
            have N2 := Lib.hid (N3.out.draw C2 G2)
            clear C2 G2
            refine wpAnyH_ready (rs := [5]) (by kernel_rfl) (by simp) ?_; refine AllReadyH.cons rfl (fun K hK => ?_) AllReadyH.nil; go_simp; (try simp only [Act.put, List.setIfInBounds_toArray, List.set_cons_zero, List.set_cons_succ]); (try go_wp2_with (go_at_call 31; refine (pick_any g _ 3 _ N2.out.cur (by omega) (by omega)).mono ?_; rintro e w3 ⟨v, rfl, ⟨x, rfl, x0, x1⟩, C3, G3⟩)); refine hK.out _ _ trivial fun _ => ?_; clear hK K; (try simp only [Act.put, List.setIfInBounds_toArray, List.set_cons_zero, List.set_cons_succ])
            have N3 := Lib.hid (N2.out.draw C3 G3)
            clear C3 G3
            refine wpAnyH_ready (rs := [7]) (by kernel_rfl) (by simp) ?_; refine AllReadyH.cons rfl (fun K hK => ?_) AllReadyH.nil; go_simp; (try simp only [Act.put, List.setIfInBounds_toArray, List.set_cons_zero, List.set_cons_succ]); (try go_wp2_with (go_at_call 31; refine (pick_any g _ 3 _ N3.out.cur (by omega) (by omega)).mono ?_; rintro e w4 ⟨v, rfl, ⟨bb, rfl, bb0, bb1⟩, C4, G4⟩)); refine hK.out _ _ trivial fun _ => ?_; clear hK K; (try simp only [Act.put, List.setIfInBounds_toArray, List.set_cons_zero, List.set_cons_succ])
            have N4 := Lib.hid (N3.out.draw C4 G4)
            clear C4 G4
            refine wpAnyH_ready (rs := [9]) (by kernel_rfl) (by simp) ?_; refine AllReadyH.cons rfl (fun K hK => ?_) AllReadyH.nil; go_simp; (try simp only [Act.put, List.setIfInBounds_toArray, List.set_cons_zero, List.set_cons_succ]); (try go_wp2_with (go_at_call 31; refine (pick_any g _ 2 _ N4.out.cur (by omega) (by omega)).mono ?_; rintro e w5 ⟨v, rfl, ⟨y, rfl, y0, y1⟩, C5, G5⟩)); refine hK.out _ _ trivial fun _ => ?_; clear hK K; (try simp only [Act.put, List.setIfInBounds_toArray, List.set_cons_zero, List.set_cons_succ])
            have N5 := Lib.hid (N4.out.draw C5 G5)
            clear C5 G5
            refine wpAnyH_take (i := 10) (v := ?_) rfl (by kernel_rfl) (by kernel_rfl) (by kernel_rfl) (fun _ _ _ h => h) (Or.inl ⟨by rfl, ?_⟩) trivial ?_; rotate_left 1; (focus (intro w hSw; go_simp; (try with_reducible rfl))); (try simp only [Act.put, List.setIfInBounds_toArray, List.set_cons_zero, List.set_cons_succ])
            have N6 := Lib.hid (N5.out.step ((Ext.refl (w5)).alloc (.cells #[.int .i64 a, .int .i64 x, .int .i64 bb, .int .i64 y] 42)))
            refine wpAnyH_ready (rs := [11]) (by kernel_rfl) (by simp) ?_; refine AllReadyH.cons rfl (fun K hK => ?_) AllReadyH.nil; go_simp; (try simp only [Act.put, List.setIfInBounds_toArray, List.set_cons_zero, List.set_cons_succ]); (try go_wp2_with fail); refine hK.out _ _ trivial fun _ => ?_; clear hK K; (try simp only [Act.put, List.setIfInBounds_toArray, List.set_cons_zero, List.set_cons_succ])
            have on6 := own_block (w5) 42 (Ban.cs ⟨a, x, bb, y⟩)
            (try simp only [World.size_alloc, World.size_drew] at on6)
            have ON := Lib.hid on6
            clear on6
            refine wpAnyH_ready (rs := [12]) (by kernel_rfl) (by simp) ?_; refine AllReadyH.cons rfl (fun K hK => ?_) AllReadyH.nil; refine step_app_own rfl (.tmp 96) (.tmp 106) 25 rfl w0.heap.size 42 i1 (.agg #[.int .i64 0, .int .i64 0, .int .i64 0, .int .i64 0]) 4 32 Try.underlying25 hj0 hy0v hyy1 hyy2 rfl (by decide) (.slice B m d) m (bs.flatMap Ban.cs) rfl N6.out.rb ⟨w5.heap.size, 0, none⟩ 1 1 (Ban.cs ⟨a, x, bb, y⟩) rfl rfl (fun j u' hj => by rw [Addr.add_mid, Nat.zero_add]; exact own_at ON.out hj) (ban_one _) (by unfold maxLen; omega) (by omega) N6.out.grown.size 107 rfl (m + 1) rfl ((bs ++ [(⟨a, x, bb, y⟩ : Ban)]).flatMap Ban.cs) (bans_snoc _ _) ?_; intro A9 c9 w9 op9 gp9; (try simp only [Act.put, List.setIfInBounds_toArray, List.set_cons_zero, List.set_cons_succ]); refine hK.out _ _ trivial fun _ => ?_; clear hK K; (try simp only [Act.put, List.setIfInBounds_toArray, List.set_cons_zero, List.set_cons_succ])
            have B9 := Lib.hid (N6.out.box.kept gp9 (own_types N6.out.box N6.out.rb tabBan))
            have NS := Lib.hid (N6.out.banned op9 gp9)
            clear op9 gp9
            refine wpAnyH_take (i := 13) (v := ?_) rfl (by kernel_rfl) (by kernel_rfl) (by kernel_rfl) (fun _ _ _ h => h) (Or.inl ⟨by rfl, ?_⟩) trivial ?_; rotate_left 1; (focus (intro w hSw; go_simp; (try with_reducible rfl))); (try simp only [Act.put, List.setIfInBounds_toArray, List.set_cons_zero, List.set_cons_succ])
            have cx9 := own_at B9.out (j := 1) rfl
            have cz9 : gt < w9.heap.size := World.block_lt_of_cell? w9 _ cx9
            have cf9 := B9.out.frozenAt 1
            refine wpAnyH_ready (rs := [14]) (by kernel_rfl) (by simp) ?_; refine AllReadyH.cons rfl (fun K hK => ?_) AllReadyH.nil; go_simp; (try simp only [Act.put, List.setIfInBounds_toArray, List.set_cons_zero, List.set_cons_succ]); (try go_wp2_with fail); refine hK.out _ _ trivial fun _ => ?_; clear hK K; (try simp only [Act.put, List.setIfInBounds_toArray, List.set_cons_zero, List.set_cons_succ])
            clear cx9 cz9 cf9
            refine wpAnyH_done (by kernel_rfl) ?_ _
          rotate_left 1
          focus
            go_simp; (try simp only [Act.put, List.setIfInBounds_toArray, List.set_cons_zero, List.set_cons_succ]); (try go_wp2_with (go_at_call 31; refine (pick_any g _ 2 _ N3.out.cur (by omega) (by omega)).mono ?_; rintro e w1 ⟨v, rfl, ⟨a, rfl, a0, a1⟩, C1, G1⟩)); refine hK.out _ _ trivial fun _ => ?_; clear hK K; (try simp only [Act.put, List.setIfInBounds_toArray, List.set_cons_zero, List.set_cons_succ])
            have N1 := Lib.hid (N3.out.draw C1 G1)
            clear C1 G1
            refine wpAnyH_ready (rs := [1, 5]) (by kernel_rfl) (by simp) ?_; refine AllReadyH.cons rfl (fun K hK => ?_) (AllReadyH.cons rfl (fun K hK => ?_) (AllReadyH.nil))
            focus
              have cx2 := own_at N1.out.box (j := 1) rfl
              have cz2 : gt < w1.heap.size := by have h9 := World.block_lt_of_cell? w1 _ cx2; (try simp only [World.size_alloc, World.size_drew] at h9); exact h9
              go_simp; (try simp only [Act.put, List.setIfInBounds_toArray, List.set_cons_zero, List.set_cons_succ]); (try go_wp2_with fail); refine hK.out _ _ trivial fun _ => ?_; clear hK K; (try simp only [Act.put, List.setIfInBounds_toArray, List.set_cons_zero, List.set_cons_succ])
              clear cx2 cz2
              refine wpAnyH_ready (rs := [5]) (by kernel_rfl) (by simp) ?_; refine AllReadyH.cons rfl (fun K hK => ?_) AllReadyH.nil; go_simp; (try simp only [Act.put, List.setIfInBounds_toArray, List.set_cons_zero, List.set_cons_succ]); (try go_wp2_with (go_at_call 31; refine (pick_any g _ 3 _ N1.out.cur (by omega) (by omega)).mono ?_; rintro e w3 ⟨v, rfl, ⟨x, rfl, x0, x1⟩, C3, G3⟩)); refine hK.out _ _ trivial fun _ => ?_; clear hK K; (try simp only [Act.put, List.setIfInBounds_toArray, List.set_cons_zero, List.set_cons_succ])
              have N3 := Lib.hid (N1.out.draw C3 G3)
              clear C3 G3
              refine wpAnyH_ready (rs := [7]) (by kernel_rfl) (by simp) ?_; refine AllReadyH.cons rfl (fun K hK => ?_) AllReadyH.nil; go_simp; (try simp only [Act.put, List.setIfInBounds_toArray, List.set_cons_zero, List.set_cons_succ]); (try go_wp2_with (go_at_call 31; refine (pick_any g _ 3 _ N3.out.cur (by omega) (by omega)).mono ?_; rintro e w4 ⟨v, rfl, ⟨bb, rfl, bb0, bb1⟩, C4, G4⟩)); refine hK.out _ _ trivial fun _ => ?_; clear hK K; (try simp only [Act.put, List.setIfInBounds_toArray, List.set_cons_zero, List.set_cons_succ])
              have N4 := Lib.hid (N3.out.draw C4 G4)
              clear C4 G4
              refine wpAnyH_ready (rs := [9]) (by kernel_rfl) (by simp) ?_; refine AllReadyH.cons rfl (fun K hK => ?_) AllReadyH.nil; go_simp; (try simp only [Act.put, List.setIfInBounds_toArray, List.set_cons_zero, List.set_cons_succ]); (try go_wp2_with (go_at_call 31; refine (pick_any g _ 2 _ N4.out.cur (by omega) (by omega)).mono ?_; rintro e w5 ⟨v, rfl, ⟨y, rfl, y0, y1⟩, C5, G5⟩)); refine hK.out _ _ trivial fun _ => ?_; clear hK K; (try simp only [Act.put, List.setIfInBounds_toArray, List.set_cons_zero, List.set_cons_succ])
              have N5 := Lib.hid (N4.out.draw C5 G5)
              clear C5 G5
              refine wpAnyH_take (i := 10) (v := ?_) rfl (by kernel_rfl) (by kernel_rfl) (by kernel_rfl) (fun _ _ _ h => h) (Or.inl ⟨by rfl, ?_⟩) trivial ?_; rotate_left 1; (focus (intro w hSw; go_simp; (try with_reducible rfl))); (try simp only [Act.put, List.setIfInBounds_toArray, List.set_cons_zero, List.set_cons_succ])
              have N6 := Lib.hid (N5.out.step ((Ext.refl (w5)).alloc (.cells #[.int .i64 a, .int .i64 x, .int .i64 bb, .int .i64 y] 42)))
              refine wpAnyH_ready (rs := [11]) (by kernel_rfl) (by simp) ?_; refine AllReadyH.cons rfl (fun K hK => ?_) AllReadyH.nil; go_simp; (try simp only [Act.put, List.setIfInBounds_toArray, List.set_cons_zero, List.set_cons_succ]); (try go_wp2_with fail); refine hK.out _ _ trivial fun _ => ?_; clear hK K; (try simp only [Act.put, List.setIfInBounds_toArray, List.set_cons_zero, List.set_cons_succ])
              have on6 := own_block (w5) 42 (Ban.cs ⟨a, x, bb, y⟩)
              (try simp only [World.size_alloc, World.size_drew] at on6)
              have ON := Lib.hid on6
              clear on6
              refine wpAnyH_ready (rs := [12]) (by kernel_rfl) (by simp) ?_; refine AllReadyH.cons rfl (fun K hK => ?_) AllReadyH.nil; refine step_app_own rfl (.tmp 96) (.tmp 106) 25 rfl w0.heap.size 42 i1 (.agg #[.int .i64 0, .int .i64 0, .int .i64 0, .int .i64 0]) 4 32 Try.underlying25 hj0 hy0v hyy1 hyy2 rfl (by decide) (.slice B m d) m (bs.flatMap Ban.cs) rfl N6.out.rb ⟨w5.heap.size, 0, none⟩ 1 1 (Ban.cs ⟨a, x, bb, y⟩) rfl rfl (fun j u' hj => by rw [Addr.add_mid, Nat.zero_add]; exact own_at ON.out hj) (ban_one _) (by unfold maxLen; omega) (by omega) N6.out.grown.size 107 rfl (m + 1) rfl ((bs ++ [(⟨a, x, bb, y⟩ : Ban)]).flatMap Ban.cs) (bans_snoc _ _) ?_; intro A9 c9 w9 op9 gp9; (try simp only [Act.put, List.setIfInBounds_toArray, List.set_cons_zero, List.set_cons_succ]); refine hK.out _ _ trivial fun _ => ?_; clear hK K; (try simp only [Act.put, List.setIfInBounds_toArray, List.set_cons_zero, List.set_cons_succ])
              have B9 := Lib.hid (N6.out.box.kept gp9 (own_types N6.out.box N6.out.rb tabBan))
              have NS := Lib.hid (N6.out.banned op9 gp9)
              clear op9 gp9
              refine wpAnyH_take (i := 13) (v := ?_) rfl (by kernel_rfl) (by kernel_rfl) (by kernel_rfl) (fun _ _ _ h => h) (Or.inl ⟨by rfl, ?_⟩) trivial ?_; rotate_left 1; (focus (intro w hSw; go_simp; (try with_reducible rfl))); (try simp only [Act.put, List.setIfInBounds_toArray, List.set_cons_zero, List.set_cons_succ])
              have cx9 := own_at B9.out (j := 1) rfl
              have cz9 : gt < w9.heap.size := World.block_lt_of_cell? w9 _ cx9
              have cf9 := B9.out.frozenAt 1
              refine wpAnyH_ready (rs := [14]) (by kernel_rfl) (by simp) ?_; refine AllReadyH.cons rfl (fun K hK => ?_) AllReadyH.nil; go_simp; (try simp only [Act.put, List.setIfInBounds_toArray, List.set_cons_zero, List.set_cons_succ]); (try go_wp2_with fail); refine hK.out _ _ trivial fun _ => ?_; clear hK K; (try simp only [Act.put, List.setIfInBounds_toArray, List.set_cons_zero, List.set_cons_succ])
              clear cx9 cz9 cf9
              refine wpAnyH_done (by kernel_rfl) ?_ _
            rotate_left 1
            focus
              go_simp; (try simp only [Act.put, List.setIfInBounds_toArray, List.set_cons_zero, List.set_cons_succ]); (try go_wp2_with (go_at_call 31; refine (pick_any g _ 3 _ N1.out.cur (by omega) (by omega)).mono ?_; rintro e w2 ⟨v, rfl, ⟨x, rfl, x0, x1⟩, C2, G2⟩)); refine hK.out _ _ trivial fun _ => ?_; clear hK K; (try simp only [Act.put, List.setIfInBounds_toArray, List.set_cons_zero, List.set_cons_succ])
              have N2 := Lib.hid (N1.out.draw C2 G2)
              clear C2 G2
              refine wpAnyH_ready (rs := [1, 7]) (by kernel_rfl) (by simp) ?_; refine AllReadyH.cons rfl (fun K hK => ?_) (AllReadyH.cons rfl (fun K hK => ?_) (AllReadyH.nil))
              focus
                have cx3 := own_at N2.out.box (j := 1) rfl
                have cz3 : gt < w2.heap.size := by have h9 := World.block_lt_of_cell? w2 _ cx3; (try simp only [World.size_alloc, World.size_drew] at h9); exact h9
                go_simp; (try simp only [Act.put, List.setIfInBounds_toArray, List.set_cons_zero, List.set_cons_succ]); (try go_wp2_with fail); refine hK.out _ _ trivial fun _ => ?_; clear hK K; (try simp only [Act.put, List.setIfInBounds_toArray, List.set_cons_zero, List.set_cons_succ])
                clear cx3 cz3
                refine wpAnyH_ready (rs := [7]) (by kernel_rfl) (by simp) ?_; refine AllReadyH.cons rfl (fun K hK => ?_) AllReadyH.nil; go_simp; (try simp only [Act.put, List.setIfInBounds_toArray, List.set_cons_zero, List.set_cons_succ]); (try go_wp2_with (go_at_call 31; refine (pick_any g _ 3 _ N2.out.cur (by omega) (by omega)).mono ?_; rintro e w4 ⟨v, rfl, ⟨bb, rfl, bb0, bb1⟩, C4, G4⟩)); refine hK.out _ _ trivial fun _ => ?_; clear hK K; (try simp only [Act.put, List.setIfInBounds_toArray, List.set_cons_zero, List.set_cons_succ])
                have N4 := Lib.hid (N2.out.draw C4 G4)
                clear C4 G4
                refine wpAnyH_ready (rs := [9]) (by kernel_rfl) (by simp) ?_; refine AllReadyH.cons rfl (fun K hK => ?_) AllReadyH.nil; go_simp; (try simp only [Act.put, List.setIfInBounds_toArray, List.set_cons_zero, List.set_cons_succ]); (try go_wp2_with (go_at_call 31; refine (pick_any g _ 2 _ N4.out.cur (by omega) (by omega)).mono ?_; rintro e w5 ⟨v, rfl, ⟨y, rfl, y0, y1⟩, C5, G5⟩)); refine hK.out _ _ trivial fun _ => ?_; clear hK K; (try simp only [Act.put, List.setIfInBounds_toArray, List.set_cons_zero, List.set_cons_succ])
                have N5 := Lib.hid (N4.out.draw C5 G5)
                clear C5 G5
                refine wpAnyH_take (i := 10) (v := ?_) rfl (by kernel_rfl) (by kernel_rfl) (by kernel_rfl) (fun _ _ _ h => h) (Or.inl ⟨by rfl, ?_⟩) trivial ?_; rotate_left 1; (focus (intro w hSw; go_simp; (try with_reducible rfl))); (try simp only [Act.put, List.setIfInBounds_toArray, List.set_cons_zero, List.set_cons_succ])
                have N6 := Lib.hid (N5.out.step ((Ext.refl (w5)).alloc (.cells #[.int .i64 a, .int .i64 x, .int .i64 bb, .int .i64 y] 42)))
                refine wpAnyH_ready (rs := [11]) (by kernel_rfl) (by simp) ?_; refine AllReadyH.cons rfl (fun K hK => ?_) AllReadyH.nil; go_simp; (try simp only [Act.put, List.setIfInBounds_toArray, List.set_cons_zero, List.set_cons_succ]); (try go_wp2_with fail); refine hK.out _ _ trivial fun _ => ?_; clear hK K; (try simp only [Act.put, List.setIfInBounds_toArray, List.set_cons_zero, List.set_cons_succ])
                have on6 := own_block (w5) 42 (Ban.cs ⟨a, x, bb, y⟩)
                (try simp only [World.size_alloc, World.size_drew] at on6)
                have ON := Lib.hid on6
                clear on6
                refine wpAnyH_ready (rs := [12]) (by kernel_rfl) (by simp) ?_; refine AllReadyH.cons rfl (fun K hK => ?_) AllReadyH.nil; refine step_app_own rfl (.tmp 96) (.tmp 106) 25 rfl w0.heap.size 42 i1 (.agg #[.int .i64 0, .int .i64 0, .int .i64 0, .int .i64 0]) 4 32 Try.underlying25 hj0 hy0v hyy1 hyy2 rfl (by decide) (.slice B m d) m (bs.flatMap Ban.cs) rfl N6.out.rb ⟨w5.heap.size, 0, none⟩ 1 1 (Ban.cs ⟨a, x, bb, y⟩) rfl rfl (fun j u' hj => by rw [Addr.add_mid, Nat.zero_add]; exact own_at ON.out hj) (ban_one _) (by unfold maxLen; omega) (by omega) N6.out.grown.size 107 rfl (m + 1) rfl ((bs ++ [(⟨a, x, bb, y⟩ : Ban)]).flatMap Ban.cs) (bans_snoc _ _) ?_; intro A9 c9 w9 op9 gp9; (try simp only [Act.put, List.setIfInBounds_toArray, List.set_cons_zero, List.set_cons_succ]); refine hK.out _ _ trivial fun _ => ?_; clear hK K; (try simp only [Act.put, List.setIfInBounds_toArray, List.set_cons_zero, List.set_cons_succ])
                have B9 := Lib.hid (N6.out.box.kept gp9 (own_types N6.out.box N6.out.rb tabBan))
                have NS := Lib.hid (N6.out.banned op9 gp9)
                clear op9 gp9
                refine wpAnyH_take (i := 13) (v := ?_) rfl (by kernel_rfl) (by kernel_rfl) (by kernel_rfl) (fun _ _ _ h => h) (Or.inl ⟨by rfl, ?_⟩) trivial ?_; rotate_left 1; (focus (intro w hSw; go_simp; (try with_reducible rfl))); (try simp only [Act.put, List.setIfInBounds_toArray, List.set_cons_zero, List.set_cons_succ])
                have cx9 := own_at B9.out (j := 1) rfl
                have cz9 : gt < w9.heap.size := World.block_lt_of_cell? w9 _ cx9
                have cf9 := B9.out.frozenAt 1
                refine wpAnyH_ready (rs := [14]) (by kernel_rfl) (by simp) ?_; refine AllReadyH.cons rfl (fun K hK => ?_) AllReadyH.nil; go_simp; (try simp only [Act.put, List.setIfInBounds_toArray, List.set_cons_zero, List.set_cons_succ]); (try go_wp2_with fail); refine hK.out _ _ trivial fun _ => ?_; clear hK K; (try simp only [Act.put, List.setIfInBounds_toArray, List.set_cons_zero, List.set_cons_succ])
                clear cx9 cz9 cf9
                refine wpAnyH_done (by kernel_rfl) ?_ _
              rotate_left 1
              focus
                go_simp; (try simp only [Act.put, List.setIfInBounds_toArray, List.set_cons_zero, List.set_cons_succ]); (try go_wp2_with (go_at_call 31; refine (pick_any g _ 3 _ N2.out.cur (by omega) (by omega)).mono ?_; rintro e w3 ⟨v, rfl, ⟨bb, rfl, bb0, bb1⟩, C3, G3⟩)); refine hK.out _ _ trivial fun _ => ?_; clear hK K; (try simp only [Act.put, List.setIfInBounds_toArray, List.set_cons_zero, List.set_cons_succ])
                have N3 := Lib.hid (N2.out.draw C3 G3)
                clear C3 G3
                refine wpAnyH_ready (rs := [1, 9]) (by kernel_rfl) (by simp) ?_; refine AllReadyH.cons rfl (fun K hK => ?_) (AllReadyH.cons rfl (fun K hK => ?_) (AllReadyH.nil))
                focus
                  have cx4 := own_at N3.out.box (j := 1) rfl
                  have cz4 : gt < w3.heap.size := by have h9 := World.block_lt_of_cell? w3 _ cx4; (try simp only [World.size_alloc, World.size_drew] at h9); exact h9
                  go_simp; (try simp only [Act.put, List.setIfInBounds_toArray, List.set_cons_zero, List.set_cons_succ]); (try go_wp2_with fail); refine hK.out _ _ trivial fun _ => ?_; clear hK K; (try simp only [Act.put, List.setIfInBounds_toArray, List.set_cons_zero, List.set_cons_succ])
                  clear cx4 cz4
                  refine wpAnyH_ready (rs := [9]) (by kernel_rfl) (by simp) ?_; refine AllReadyH.cons rfl (fun K hK => ?_) AllReadyH.nil; go_simp; (try simp only [Act.put, List.setIfInBounds_toArray, List.set_cons_zero, List.set_cons_succ]); (try go_wp2_with (go_at_call 31; refine (pick_any g _ 2 _ N3.out.cur (by omega) (by omega)).mono ?_; rintro e w5 ⟨v, rfl, ⟨y, rfl, y0, y1⟩, C5, G5⟩)); refine hK.out _ _ trivial fun _ => ?_; clear hK K; (try simp only [Act.put, List.setIfInBounds_toArray, List.set_cons_zero, List.set_cons_succ])
                  have N5 := Lib.hid (N3.out.draw C5 G5)
                  clear C5 G5
                  refine wpAnyH_take (i := 10) (v := ?_) rfl (by kernel_rfl) (by kernel_rfl) (by kernel_rfl) (fun _ _ _ h => h) (Or.inl ⟨by rfl, ?_⟩) trivial ?_; rotate_left 1; (focus (intro w hSw; go_simp; (try with_reducible rfl))); (try simp only [Act.put, List.setIfInBounds_toArray, List.set_cons_zero, List.set_cons_succ])
                  have N6 := Lib.hid (N5.out.step ((Ext.refl (w5)).alloc (.cells #[.int .i64 a, .int .i64 x, .int .i64 bb, .int .i64 y] 42)))
                  refine wpAnyH_ready (rs := [11]) (by kernel_rfl) (by simp) ?_; refine AllReadyH.cons rfl (fun K hK => ?_) AllReadyH.nil; go_simp; (try simp only [Act.put, List.setIfInBounds_toArray, List.set_cons_zero, List.set_cons_succ]); (try go_wp2_with fail); refine hK.out _ _ trivial fun _ => ?_; clear hK K; (try simp only [Act.put, List.setIfInBounds_toArray, List.set_cons_zero, List.set_cons_succ])
                  have on6 := own_block (w5) 42 (Ban.cs ⟨a, x, bb, y⟩)
                  (try simp only [World.size_alloc, World.size_drew] at on6)
                  have ON := Lib.hid on6
                  clear on6
                  refine wpAnyH_ready (rs := [12]) (by kernel_rfl) (by simp) ?_; refine AllReadyH.cons rfl (fun K hK => ?_) AllReadyH.nil; refine step_app_own rfl (.tmp 96) (.tmp 106) 25 rfl w0.heap.size 42 i1 (.agg #[.int .i64 0, .int .i64 0, .int .i64 0, .int .i64 0]) 4 32 Try.underlying25 hj0 hy0v hyy1 hyy2 rfl (by decide) (.slice B m d) m (bs.flatMap Ban.cs) rfl N6.out.rb ⟨w5.heap.size, 0, none⟩ 1 1 (Ban.cs ⟨a, x, bb, y⟩) rfl rfl (fun j u' hj => by rw [Addr.add_mid, Nat.zero_add]; exact own_at ON.out hj) (ban_one _) (by unfold maxLen; omega) (by omega) N6.out.grown.size 107 rfl (m + 1) rfl ((bs ++ [(⟨a, x, bb, y⟩ : Ban)]).flatMap Ban.cs) (bans_snoc _ _) ?_; intro A9 c9 w9 op9 gp9; (try simp only [Act.put, List.setIfInBounds_toArray, List.set_cons_zero, List.set_cons_succ]); refine hK.out _ _ trivial fun _ => ?_; clear hK K; (try simp only [Act.put, List.setIfInBounds_toArray, List.set_cons_zero, List.set_cons_succ])
                  have B9 := Lib.hid (N6.out.box.kept gp9 (own_types N6.out.box N6.out.rb tabBan))
                  have NS := Lib.hid (N6.out.banned op9 gp9)
                  clear op9 gp9
                  refine wpAnyH_take (i := 13) (v := ?_) rfl (by kernel_rfl) (by kernel_rfl) (by kernel_rfl) (fun _ _ _ h => h) (Or.inl ⟨by rfl, ?_⟩) trivial ?_; rotate_left 1; (focus (intro w hSw; go_simp; (try with_reducible rfl))); (try simp only [Act.put, List.setIfInBounds_toArray, List.set_cons_zero, List.set_cons_succ])
                  have cx9 := own_at B9.out (j := 1) rfl
                  have cz9 : gt < w9.heap.size := World.block_lt_of_cell? w9 _ cx9
                  have cf9 := B9.out.frozenAt 1
                  refine wpAnyH_ready (rs := [14]) (by kernel_rfl) (by simp) ?_; refine AllReadyH.cons rfl (fun K hK => ?_) AllReadyH.nil; go_simp; (try simp only [Act.put, List.setIfInBounds_toArray, List.set_cons_zero, List.set_cons_succ]); (try go_wp2_with fail); refine hK.out _ _ trivial fun _ => ?_; clear hK K; (try simp only [Act.put, List.setIfInBounds_toArray, List.set_cons_zero, List.set_cons_succ])
                  clear cx9 cz9 cf9
                  refine wpAnyH_done (by kernel_rfl) ?_ _
                rotate_left 1
                focus
                  go_simp; (try simp only [Act.put, List.setIfInBounds_toArray, List.set_cons_zero, List.set_cons_succ]); (try go_wp2_with (go_at_call 31; refine (pick_any g _ 2 _ N3.out.cur (by omega) (by omega)).mono ?_; rintro e w4 ⟨v, rfl, ⟨y, rfl, y0, y1⟩, C4, G4⟩)); refine hK.out _ _ trivial fun _ => ?_; clear hK K; (try simp only [Act.put, List.setIfInBounds_toArray, List.set_cons_zero, List.set_cons_succ])
                  have N4 := Lib.hid (N3.out.draw C4 G4)
                  clear C4 G4
                  refine wpAnyH_take (i := 10) (v := ?_) rfl (by kernel_rfl) (by kernel_rfl) (by kernel_rfl) (fun _ _ _ h => h) (Or.inl ⟨by rfl, ?_⟩) trivial ?_; rotate_left 1; (focus (intro w hSw; go_simp; (try with_reducible rfl))); (try simp only [Act.put, List.setIfInBounds_toArray, List.set_cons_zero, List.set_cons_succ])
                  refine wpAnyH_ready (rs := [1, 11]) (by kernel_rfl) (by simp) ?_; refine AllReadyH.cons rfl (fun K hK => ?_) (AllReadyH.cons rfl (fun K hK => ?_) (AllReadyH.nil))
                  focus
                    have cx5 := own_at N4.out.box (j := 1) rfl
                    have cz5 : gt < w4.heap.size := by have h9 := World.block_lt_of_cell? w4 _ cx5; (try simp only [World.size_alloc, World.size_drew] at h9); exact h9
                    go_simp; (try simp only [Act.put, List.setIfInBounds_toArray, List.set_cons_zero, List.set_cons_succ]); (try go_wp2_with fail); refine hK.out _ _ trivial fun _ => ?_; clear hK K; (try simp only [Act.put, List.setIfInBounds_toArray, List.set_cons_zero, List.set_cons_succ])
                    clear cx5 cz5
                    have N6 := Lib.hid (N4.out.step ((Ext.refl (w4)).alloc (.cells #[.int .i64 a, .int .i64 x, .int .i64 bb, .int .i64 y] 42)))
                    refine wpAnyH_ready (rs := [11]) (by kernel_rfl) (by simp) ?_; refine AllReadyH.cons rfl (fun K hK => ?_) AllReadyH.nil; go_simp; (try simp only [Act.put, List.setIfInBounds_toArray, List.set_cons_zero, List.set_cons_succ]); (try go_wp2_with fail); refine hK.out _ _ trivial fun _ => ?_; clear hK K; (try simp only [Act.put, List.setIfInBounds_toArray, List.set_cons_zero, List.set_cons_succ])
                    have on6 := own_block (w4) 42 (Ban.cs ⟨a, x, bb, y⟩)
                    (try simp only [World.size_alloc, World.size_drew] at on6)
                    have ON := Lib.hid on6
                    clear on6
                    refine wpAnyH_ready (rs := [12]) (by kernel_rfl) (by simp) ?_; refine AllReadyH.cons rfl (fun K hK => ?_) AllReadyH.nil; refine step_app_own rfl (.tmp 96) (.tmp 106) 25 rfl w0.heap.size 42 i1 (.agg #[.int .i64 0, .int .i64 0, .int .i64 0, .int .i64 0]) 4 32 Try.underlying25 hj0 hy0v hyy1 hyy2 rfl (by decide) (.slice B m d) m (bs.flatMap Ban.cs) rfl N6.out.rb ⟨w4.heap.size, 0, none⟩ 1 1 (Ban.cs ⟨a, x, bb, y⟩) rfl rfl (fun j u' hj => by rw [Addr.add_mid, Nat.zero_add]; exact own_at ON.out hj) (ban_one _) (by unfold maxLen; omega) (by omega) N6.out.grown.size 107 rfl (m + 1) rfl ((bs ++ [(⟨a, x, bb, y⟩ : Ban)]).flatMap Ban.cs) (bans_snoc _ _) ?_; intro A9 c9 w9 op9 gp9; (try simp only [Act.put, List.setIfInBounds_toArray, List.set_cons_zero, List.set_cons_succ]); refine hK.out _ _ trivial fun _ => ?_; clear hK K; (try simp only [Act.put, List.setIfInBounds_toArray, List.set_cons_zero, List.set_cons_succ])
                    have B9 := Lib.hid (N6.out.box.kept gp9 (own_types N6.out.box N6.out.rb tabBan))
                    have NS := Lib.hid (N6.out.banned op9 gp9)
                    clear op9 gp9
                    refine wpAnyH_take (i := 13) (v := ?_) rfl (by kernel_rfl) (by kernel_rfl) (by kernel_rfl) (fun _ _ _ h => h) (Or.inl ⟨by rfl, ?_⟩) trivial ?_; rotate_left 1; (focus (intro w hSw; go_simp; (try with_reducible rfl))); (try simp only [Act.put, List.setIfInBounds_toArray, List.set_cons_zero, List.set_cons_succ])
                    have cx9 := own_at B9.out (j := 1) rfl
                    have cz9 : gt < w9.heap.size := World.block_lt_of_cell? w9 _ cx9
                    have cf9 := B9.out.frozenAt 1
                    refine wpAnyH_ready (rs := [14]) (by kernel_rfl) (by simp) ?_; refine AllReadyH.cons rfl (fun K hK => ?_) AllReadyH.nil; go_simp; (try simp only [Act.put, List.setIfInBounds_toArray, List.set_cons_zero, List.set_cons_succ]); (try go_wp2_with fail); refine hK.out _ _ trivial fun _ => ?_; clear hK K; (try simp only [Act.put, List.setIfInBounds_toArray, List.set_cons_zero, List.set_cons_succ])
                    clear cx9 cz9 cf9
                    refine wpAnyH_done (by kernel_rfl) ?_ _
                  rotate_left 1
                  focus
                    have N5 := Lib.hid (N4.out.step ((Ext.refl (w4)).alloc (.cells #[.int .i64 a, .int .i64 x, .int .i64 bb, .int .i64 y] 42)))
                    go_simp; (try simp only [Act.put, List.setIfInBounds_toArray, List.set_cons_zero, List.set_cons_succ]); (try go_wp2_with fail); refine hK.out _ _ trivial fun _ => ?_; clear hK K; (try simp only [Act.put, List.setIfInBounds_toArray, List.set_cons_zero, List.set_cons_succ])
                    have on5 := own_block (w4) 42 (Ban.cs ⟨a, x, bb, y⟩)
                    (try simp only [World.size_alloc, World.size_drew] at on5)
                    have ON := Lib.hid on5
                    clear on5
                    have cx6 := own_at N5.out.box (j := 1) rfl
                    have cz6 : gt < w4.heap.size + 1 := by have h9 := World.block_lt_of_cell? (w4.alloc (.cells #[.int .i64 a, .int .i64 x, .int .i64 bb, .int .i64 y] 42)) _ cx6; (try simp only [World.size_alloc, World.size_drew] at h9); exact h9
                    have cy6 := own_at N4.out.box (j := 1) rfl
                    have cu6 : gt < w4.heap.size := by have h9 := World.block_lt_of_cell? w4 _ cy6; (try simp only [World.size_alloc, World.size_drew] at h9); exact h9
                    have cv6 : ¬ gt = w4.heap.size := by omega
                    refine wpAnyH_ready (rs := [1]) (by kernel_rfl) (by simp) ?_; refine AllReadyH.cons rfl (fun K hK => ?_) AllReadyH.nil; go_simp; (try simp only [Act.put, List.setIfInBounds_toArray, List.set_cons_zero, List.set_cons_succ]); (try go_wp2_with fail); refine hK.out _ _ trivial fun _ => ?_; clear hK K; (try simp only [Act.put, List.setIfInBounds_toArray, List.set_cons_zero, List.set_cons_succ])
                    clear cx6 cz6 cy6 cu6 cv6
                    refine wpAnyH_ready (rs := [12]) (by kernel_rfl) (by simp) ?_; refine AllReadyH.cons rfl (fun K hK => ?_) AllReadyH.nil; refine step_app_own rfl (.tmp 96) (.tmp 106) 25 rfl w0.heap.size 42 i1 (.agg #[.int .i64 0, .int .i64 0, .int .i64 0, .int .i64 0]) 4 32 Try.underlying25 hj0 hy0v hyy1 hyy2 rfl (by decide) (.slice B m d) m (bs.flatMap Ban.cs) rfl N5.out.rb ⟨w4.heap.size, 0, none⟩ 1 1 (Ban.cs ⟨a, x, bb, y⟩) rfl rfl (fun j u' hj => by rw [Addr.add_mid, Nat.zero_add]; exact own_at ON.out hj) (ban_one _) (by unfold maxLen; omega) (by omega) N5.out.grown.size 107 rfl (m + 1) rfl ((bs ++ [(⟨a, x, bb, y⟩ : Ban)]).flatMap Ban.cs) (bans_snoc _ _) ?_; intro A9 c9 w9 op9 gp9; (try simp only [Act.put, List.setIfInBounds_toArray, List.set_cons_zero, List.set_cons_succ]); refine hK.out _ _ trivial fun _ => ?_; clear hK K; (try simp only [Act.put, List.setIfInBounds_toArray, List.set_cons_zero, List.set_cons_succ])
                    have B9 := Lib.hid (N5.out.box.kept gp9 (own_types N5.out.box N5.out.rb tabBan))
                    have NS := Lib.hid (N5.out.banned op9 gp9)
                    clear op9 gp9
                    refine wpAnyH_take (i := 13) (v := ?_) rfl (by kernel_rfl) (by kernel_rfl) (by kernel_rfl) (fun _ _ _ h => h) (Or.inl ⟨by rfl, ?_⟩) trivial ?_; rotate_left 1; (focus (intro w hSw; go_simp; (try with_reducible rfl))); (try simp only [Act.put, List.setIfInBounds_toArray, List.set_cons_zero, List.set_cons_succ])
                    have cx9 := own_at B9.out (j := 1) rfl
                    have cz9 : gt < w9.heap.size := World.block_lt_of_cell? w9 _ cx9
                    have cf9 := B9.out.frozenAt 1
                    refine wpAnyH_ready (rs := [14]) (by kernel_rfl) (by simp) ?_; refine AllReadyH.cons rfl (fun K hK => ?_) AllReadyH.nil; go_simp; (try simp only [Act.put, List.setIfInBounds_toArray, List.set_cons_zero, List.set_cons_succ]); (try go_wp2_with fail); refine hK.out _ _ trivial fun _ => ?_; clear hK K; (try simp only [Act.put, List.setIfInBounds_toArray, List.set_cons_zero, List.set_cons_succ])
                    clear cx9 cz9 cf9
                    refine wpAnyH_done (by kernel_rfl) ?_ _
                  rotate_left 1
                rotate_left 2
              rotate_left 3
            rotate_left 4
          rotate_left 5
          all_goals
            (try simp only [List.getElem_toArray, List.getElem_cons_succ, List.getElem_cons_zero, List.setIfInBounds_toArray, List.set_cons_succ, List.set_cons_zero])
            have hA9 : ∃ q9, A9 = some ⟨q9, 0, none⟩ := by
              obtain ⟨q9, cap, hv, _⟩ := NS.out.rb.form (by omega)
              injection hv with hv
              exact ⟨q9, hv⟩
            have HBS := Lib.hid (show ∀ z ∈ bs ++ [(⟨a, x, bb, y⟩ : Ban)], BanSm z from fun z hz => by
              rcases List.mem_append.1 hz with hz | hz
              · exact hbs.out z hz
              · simp at hz; subst hz; exact ⟨smI a (by omega) (by omega), smI x (by omega) (by omega), smI bb (by omega) (by omega), smI y (by omega) (by omega)⟩)
            have HF := Lib.hid (show KFin w0 g (b + 200) gt _ from ⟨_, n, c, A9, m + 1, c9, ss, _, by omega, by omega, hss, HBS.out, hA, .inr hA9, NS.out.mono (by omega)⟩)
            clear NS B9
            generalize w9.setCell _ _ = WF at *
            obtain ⟨A, n, c, B, m, d, ss, bs, hn6, hm6, hss, hbs, hA, hB, hst⟩ := HF.out
            have N3 := Lib.hid hst
            have c0 := own_at N3.out.box (j := 0) rfl
            have c1 := own_at N3.out.box (j := 1) rfl
            have cz : gt < WF.heap.size := World.block_lt_of_cell? WF _ c0
            clear hst HF
            go_wp2_with (refine wpList_store_own rfl 27 (.tmp 2) (.tmp 124) rfl w0.heap.size 0 [.slice A n c, .slice B m d] rfl rfl w0.heap.size 27 2 1 1 _ N3.out.res (by simp) sizeTab rfl ?_; intro w9 ho9 hg9)
            have q0 := own_at ho9 (j := 0) rfl
            have q1 := own_at ho9 (j := 1) rfl
            exact bodyPost_ret (v := .agg #[.slice A n c, .slice B m d]) (by simp [results, Try.results30, go_sem, q0, q1]) rfl ⟨_, rfl, ⟨A, n, c, B, m, d, ss, bs, rfl, hn6, hm6, hss, hbs, hA, hB, N3.out.rs.kept hg9 (own_types N3.out.rs N3.out.res (fun e => tabInt e.symm)), N3.out.rb.kept hg9 (own_types N3.out.rb N3.out.res banTab)⟩, (N3.out.cur.kept hg9 (fun x hx => by injection hx with hx; have := N3.out.hg; omega)).mono (by omega), grown_new N3.out.grown hg9 (fun x hx => by injection hx with hx; omega)⟩
        · have d1 : (r == 1) = false := by simpa using e1
          have d1' : decide (r = 1) = false := by simpa using e1
          by_cases e2 : r = 2
          · subst e2
            have E9 := (Ext.refl w2).alloc (.cells (ints [2, 2, 2, 2, 2, 2]).toArray 3)
            have N3 := Lib.hid (N2.out.step E9)
            have OL := Lib.hid (own_low' (own_list w2 3 [2, 2, 2, 2, 2, 2]) N2.out.grown.size)
            have cz3 : gt < w2.heap.size := (N2.out.box.lt gt rfl).2
            clear E9
            go_wp2_with (refine wpList_store_own rfl 27 (.tmp 3) (.tmp 112) rfl gt 0 [.slice (some ⟨w2.heap.size, 0, none⟩) 6 6, .slice none 0 0] rfl rfl w0.heap.size 27 2 1 1 _ N3.out.box (by simp) sizeTab rfl ?_; intro w8 ho8 hg8)
            have N4 := Lib.hid (KSt.replaced (bs' := []) N3.out OL.out (own_nil _ _ _ _) ho8 hg8)
            have hA2 : ∃ q, (some ⟨w2.heap.size, 0, none⟩ : Option Addr) = some ⟨q, 0, none⟩ := ⟨_, rfl⟩
            clear N2 N3 OL ho8 hg8 cz3 hss hbs hA hB hn4 hm5
            generalize (some ⟨w2.heap.size, 0, none⟩ : Option Addr) = A2 at *
            refine wp_region_held_drew (S := fun _ => True) (by kernel_rfl) trivial (fun hHeld => ?_)
            have N5 := Lib.hid (N4.out.step (Ext.refl w8).drew)
            refine wpAnyH_take (i := 0) (v := ?_) rfl (by kernel_rfl) (by kernel_rfl) (by kernel_rfl) (fun _ _ _ h => h) (Or.inl ⟨by rfl, ?_⟩) trivial ?_; rotate_left 1; (focus (intro w hSw; go_simp; (try with_reducible rfl))); (try simp only [Act.put, List.setIfInBounds_toArray, List.set_cons_zero, List.set_cons_succ])
            refine wpAnyH_take (i := 2) (v := ?_) rfl (by kernel_rfl) (by kernel_rfl) (by kernel_rfl) (fun _ _ _ h => h) (Or.inl ⟨by rfl, ?_⟩) trivial ?_; rotate_left 1; (focus (intro w hSw; go_simp; (try with_reducible rfl))); (try simp only [Act.put, List.setIfInBounds_toArray, List.set_cons_zero, List.set_cons_succ])
            refine wpAnyH_ready (rs := [1, 3]) (by kernel_rfl) (by simp) ?_; refine AllReadyH.cons rfl (fun K hK => ?_) (AllReadyH.cons rfl (fun K hK => ?_) (AllReadyH.nil))
            focus
              have cx1 := own_at N5.out.box (j := 0) rfl
              have cz1 : gt < w8.heap.size := by have h9 := World.block_lt_of_cell? w8.drew _ cx1; (try simp only [World.size_alloc, World.size_drew] at h9); exact h9
              go_simp; (try simp only [Act.put, List.setIfInBounds_toArray, List.set_cons_zero, List.set_cons_succ]); (try go_wp2_with fail); refine hK.out _ _ trivial fun _ => ?_; clear hK K; (try simp only [Act.put, List.setIfInBounds_toArray, List.set_cons_zero, List.set_cons_succ])
              clear cx1 cz1
              refine wpAnyH_ready (rs := [3]) (by kernel_rfl) (by simp) ?_; refine AllReadyH.cons rfl (fun K hK => ?_) AllReadyH.nil; go_simp; (try simp only [Act.put, List.setIfInBounds_toArray, List.set_cons_zero, List.set_cons_succ]); (try go_wp2_with (go_at_call 31; refine (pick_any g _ 2 _ N5.out.cur (by omega) (by omega)).mono ?_; rintro e w2 ⟨v, rfl, ⟨u, rfl, u0, u1⟩, C2, G2⟩)); refine hK.out _ _ trivial fun _ => ?_; clear hK K; (try simp only [Act.put, List.setIfInBounds_toArray, List.set_cons_zero, List.set_cons_succ])
              have N2 := Lib.hid (N5.out.draw C2 G2)
              clear C2 G2
              have wu : IntKind.i64.wrap (5 + u) = 5 + u := IntWalk.i64_in _ (by omega)
              refine wpAnyH_take (i := 4) (v := ?_) rfl (by kernel_rfl) (by kernel_rfl) (by kernel_rfl) (fun _ _ _ h => h) (Or.inl ⟨by rfl, ?_⟩) trivial ?_; rotate_left 1; (focus (intro w hSw; go_simp; (try with_reducible rfl))); (try simp only [Act.put, List.setIfInBounds_toArray, List.set_cons_zero, List.set_cons_succ])
              have hu2 : u = 0 ∨ u = 1 := by omega
              obtain ⟨w9, rfl⟩ : ∃ w9 : World, w9 = w2 := ⟨_, rfl⟩
              rcases hu2 with rfl | rfl
              focus
                refine wpAnyH_take (i := 5) (v := ?_) rfl (by kernel_rfl) (by kernel_rfl) (by kernel_rfl) (fun _ _ _ h => h) (Or.inl ⟨by rfl, ?_⟩) trivial ?_; rotate_left 1; (focus (intro w hSw; go_simp; (try with_reducible rfl))); (try simp only [Act.put, List.setIfInBounds_toArray, List.set_cons_zero, List.set_cons_succ])
                refine wpAnyH_take (i := 6) (v := ?_) rfl (by kernel_rfl) (by kernel_rfl) (by kernel_rfl) (fun _ _ _ h => h) (Or.inl ⟨by rfl, ?_⟩) trivial ?_; rotate_left 1; (focus (intro w hSw; go_simp; (try with_reducible rfl))); (try simp only [Act.put, List.setIfInBounds_toArray, List.set_cons_zero, List.set_cons_succ])
                have cx9 := own_at N2.out.box (j := 0) rfl
                have cz9 : gt < w9.heap.size := World.block_lt_of_cell? w9 _ cx9
                have cf9 := N2.out.box.frozenAt 0
                refine wpAnyH_ready (rs := [7]) (by kernel_rfl) (by simp) ?_; refine AllReadyH.cons rfl (fun K hK => ?_) AllReadyH.nil; go_simp; (try simp only [Act.put, List.setIfInBounds_toArray, List.set_cons_zero, List.set_cons_succ]); (try go_wp2_with fail); refine hK.out _ _ trivial fun _ => ?_; clear hK K; (try simp only [Act.put, List.setIfInBounds_toArray, List.set_cons_zero, List.set_cons_succ])
                clear cx9 cz9 cf9
                refine wpAnyH_done (by kernel_rfl) ?_ _
                have HF := Lib.hid (show KFin w0 g (b + 200) gt (w9.setCell ⟨gt, 0, none⟩ (.slice A2 5 6)) from by
                  obtain ⟨q, rfl⟩ := hA2
                  exact ⟨_, 5, 6, _, 0, 0, [2, 2, 2, 2, 2], [], by omega, by omega, (fun x hx => by simp at hx; omega), (fun x hx => by cases hx), ⟨q, rfl⟩, .inl ⟨rfl, rfl⟩, (KSt.sized N2.out (own_prefix N2.out.rs (show 5 ≤ 6 by omega)) (World.grownBy.refl _ _)).mono (by omega)⟩)
              rotate_left 1
              focus
                refine wpAnyH_take (i := 5) (v := ?_) rfl (by kernel_rfl) (by kernel_rfl) (by kernel_rfl) (fun _ _ _ h => h) (Or.inl ⟨by rfl, ?_⟩) trivial ?_; rotate_left 1; (focus (intro w hSw; go_simp; (try with_reducible rfl))); (try simp only [Act.put, List.setIfInBounds_toArray, List.set_cons_zero, List.set_cons_succ])
                refine wpAnyH_take (i := 6) (v := ?_) rfl (by kernel_rfl) (by kernel_rfl) (by kernel_rfl) (fun _ _ _ h => h) (Or.inl ⟨by rfl, ?_⟩) trivial ?_; rotate_left 1; (focus (intro w hSw; go_simp; (try with_reducible rfl))); (try simp only [Act.put, List.setIfInBounds_toArray, List.set_cons_zero, List.set_cons_succ])
                have cx9 := own_at N2.out.box (j := 0) rfl
                have cz9 : gt < w9.heap.size := World.block_lt_of_cell? w9 _ cx9
                have cf9 := N2.out.box.frozenAt 0
                refine wpAnyH_ready (rs := [7]) (by kernel_rfl) (by simp) ?_; refine AllReadyH.cons rfl (fun K hK => ?_) AllReadyH.nil; go_simp; (try simp only [Act.put, List.setIfInBounds_toArray, List.set_cons_zero, List.set_cons_succ]); (try go_wp2_with fail); refine hK.out _ _ trivial fun _ => ?_; clear hK K; (try simp only [Act.put, List.setIfInBounds_toArray, List.set_cons_zero, List.set_cons_succ])
                clear cx9 cz9 cf9
                refine wpAnyH_done (by kernel_rfl) ?_ _
                have HF := Lib.hid (show KFin w0 g (b + 200) gt (w9.setCell ⟨gt, 0, none⟩ (.slice A2 6 6)) from by
                  obtain ⟨q, rfl⟩ := hA2
                  exact ⟨_, 6, 6, _, 0, 0, [2, 2, 2, 2, 2, 2], [], by omega, by omega, (fun x hx => by simp at hx; omega), (fun x hx => by cases hx), ⟨q, rfl⟩, .inl ⟨rfl, rfl⟩, (KSt.sized N2.out (own_prefix N2.out.rs (show 6 ≤ 6 by omega)) (World.grownBy.refl _ _)).mono (by omega)⟩)
              rotate_left 1
            rotate_left 2
            focus
              go_simp; (try simp only [Act.put, List.setIfInBounds_toArray, List.set_cons_zero, List.set_cons_succ]); (try go_wp2_with (go_at_call 31; refine (pick_any g _ 2 _ N5.out.cur (by omega) (by omega)).mono ?_; rintro e w1 ⟨v, rfl, ⟨u, rfl, u0, u1⟩, C1, G1⟩)); refine hK.out _ _ trivial fun _ => ?_; clear hK K; (try simp only [Act.put, List.setIfInBounds_toArray, List.set_cons_zero, List.set_cons_succ])
              have N1 := Lib.hid (N5.out.draw C1 G1)
              clear C1 G1
              have wu : IntKind.i64.wrap (5 + u) = 5 + u := IntWalk.i64_in _ (by omega)
              refine wpAnyH_take (i := 4) (v := ?_) rfl (by kernel_rfl) (by kernel_rfl) (by kernel_rfl) (fun _ _ _ h => h) (Or.inl ⟨by rfl, ?_⟩) trivial ?_; rotate_left 1; (focus (intro w hSw; go_simp; (try with_reducible rfl))); (try simp only [Act.put, List.setIfInBounds_toArray, List.set_cons_zero, List.set_cons_succ])
              have cx2 := own_at N1.out.box (j := 0) rfl
              have cz2 : gt < w1.heap.size := by have h9 := World.block_lt_of_cell? w1 _ cx2; (try simp only [World.size_alloc, World.size_drew] at h9); exact h9
              refine wpAnyH_ready (rs := [1]) (by kernel_rfl) (by simp) ?_; refine AllReadyH.cons rfl (fun K hK => ?_) AllReadyH.nil; go_simp; (try simp only [Act.put, List.setIfInBounds_toArray, List.set_cons_zero, List.set_cons_succ]); (try go_wp2_with fail); refine hK.out _ _ trivial fun _ => ?_; clear hK K; (try simp only [Act.put, List.setIfInBounds_toArray, List.set_cons_zero, List.set_cons_succ])
              clear cx2 cz2
              have hu2 : u = 0 ∨ u = 1 := by omega
              obtain ⟨w9, rfl⟩ : ∃ w9 : World, w9 = w1 := ⟨_, rfl⟩
              rcases hu2 with rfl | rfl
              focus
                refine wpAnyH_take (i := 5) (v := ?_) rfl (by kernel_rfl) (by kernel_rfl) (by kernel_rfl) (fun _ _ _ h => h) (Or.inl ⟨by rfl, ?_⟩) trivial ?_; rotate_left 1; (focus (intro w hSw; go_simp; (try with_reducible rfl))); (try simp only [Act.put, List.setIfInBounds_toArray, List.set_cons_zero, List.set_cons_succ])
                refine wpAnyH_take (i := 6) (v := ?_) rfl (by kernel_rfl) (by kernel_rfl) (by kernel_rfl) (fun _ _ _ h => h) (Or.inl ⟨by rfl, ?_⟩) trivial ?_; rotate_left 1; (focus (intro w hSw; go_simp; (try with_reducible rfl))); (try simp only [Act.put, List.setIfInBounds_toArray, List.set_cons_zero, List.set_cons_succ])
                have cx9 := own_at N1.out.box (j := 0) rfl
                have cz9 : gt < w9.heap.size := World.block_lt_of_cell? w9 _ cx9
                have cf9 := N1.out.box.frozenAt 0
                refine wpAnyH_ready (rs := [7]) (by kernel_rfl) (by simp) ?_; refine AllReadyH.cons rfl (fun K hK => ?_) AllReadyH.nil; go_simp; (try simp only [Act.put, List.setIfInBounds_toArray, List.set_cons_zero, List.set_cons_succ]); (try go_wp2_with fail); refine hK.out _ _ trivial fun _ => ?_; clear hK K; (try simp only [Act.put, List.setIfInBounds_toArray, List.set_cons_zero, List.set_cons_succ])
                clear cx9 cz9 cf9
                refine wpAnyH_done (by kernel_rfl) ?_ _
                have HF := Lib.hid (show KFin w0 g (b + 200) gt (w9.setCell ⟨gt, 0, none⟩ (.slice A2 5 6)) from by
                  obtain ⟨q, rfl⟩ := hA2
                  exact ⟨_, 5, 6, _, 0, 0, [2, 2, 2, 2, 2], [], by omega, by omega, (fun x hx => by simp at hx; omega), (fun x hx => by cases hx), ⟨q, rfl⟩, .inl ⟨rfl, rfl⟩, (KSt.sized N1.out (own_prefix N1.out.rs (show 5 ≤ 6 by omega)) (World.grownBy.refl _ _)).mono (by omega)⟩)
              rotate_left 1
              focus
                refine wpAnyH_take (i := 5) (v := ?_) rfl (by kernel_rfl) (by kernel_rfl) (by kernel_rfl) (fun _ _ _ h => h) (Or.inl ⟨by rfl, ?_⟩) trivial ?_; rotate_left 1; (focus (intro w hSw; go_simp; (try with_reducible rfl))); (try simp only [Act.put, List.setIfInBounds_toArray, List.set_cons_zero, List.set_cons_succ])
                refine wpAnyH_take (i := 6) (v := ?_) rfl (by kernel_rfl) (by kernel_rfl) (by kernel_rfl) (fun _ _ _ h => h) (Or.inl ⟨by rfl, ?_⟩) trivial ?_; rotate_left 1; (focus (intro w hSw; go_simp; (try with_reducible rfl))); (try simp only [Act.put, List.setIfInBounds_toArray, List.set_cons_zero, List.set_cons_succ])
                have cx9 := own_at N1.out.box (j := 0) rfl
                have cz9 : gt < w9.heap.size := World.block_lt_of_cell? w9 _ cx9
                have cf9 := N1.out.box.frozenAt 0
                refine wpAnyH_ready (rs := [7]) (by kernel_rfl) (by simp) ?_; refine AllReadyH.cons rfl (fun K hK => ?_) AllReadyH.nil; go_simp; (try simp only [Act.put, List.setIfInBounds_toArray, List.set_cons_zero, List.set_cons_succ]); (try go_wp2_with fail); refine hK.out _ _ trivial fun _ => ?_; clear hK K; (try simp only [Act.put, List.setIfInBounds_toArray, List.set_cons_zero, List.set_cons_succ])
                clear cx9 cz9 cf9
                refine wpAnyH_done (by kernel_rfl) ?_ _
                have HF := Lib.hid (show KFin w0 g (b + 200) gt (w9.setCell ⟨gt, 0, none⟩ (.slice A2 6 6)) from by
                  obtain ⟨q, rfl⟩ := hA2
                  exact ⟨_, 6, 6, _, 0, 0, [2, 2, 2, 2, 2, 2], [], by omega, by omega, (fun x hx => by simp at hx; omega), (fun x hx => by cases hx), ⟨q, rfl⟩, .inl ⟨rfl, rfl⟩, (KSt.sized N1.out (own_prefix N1.out.rs (show 6 ≤ 6 by omega)) (World.grownBy.refl _ _)).mono (by omega)⟩)
              rotate_left 1
            rotate_left 2
            all_goals
              (try simp only [List.getElem_toArray, List.getElem_cons_succ, List.getElem_cons_zero, List.setIfInBounds_toArray, List.set_cons_succ, List.set_cons_zero])
              clear hA2
              generalize w9.setCell _ _ = WF at *
              obtain ⟨A, n, c, B, m, d, ss, bs, hn6, hm6, hss, hbs, hA, hB, hst⟩ := HF.out
              have N3 := Lib.hid hst
              have c0 := own_at N3.out.box (j := 0) rfl
              have c1 := own_at N3.out.box (j := 1) rfl
              have cz : gt < WF.heap.size := World.block_lt_of_cell? WF _ c0
              clear hst HF
              go_wp2_with (refine wpList_store_own rfl 27 (.tmp 2) (.tmp 124) rfl w0.heap.size 0 [.slice A n c, .slice B m d] rfl rfl w0.heap.size 27 2 1 1 _ N3.out.res (by simp) sizeTab rfl ?_; intro w9 ho9 hg9)
              have q0 := own_at ho9 (j := 0) rfl
              have q1 := own_at ho9 (j := 1) rfl
              exact bodyPost_ret (v := .agg #[.slice A n c, .slice B m d]) (by simp [results, Try.results30, go_sem, q0, q1]) rfl ⟨_, rfl, ⟨A, n, c, B, m, d, ss, bs, rfl, hn6, hm6, hss, hbs, hA, hB, N3.out.rs.kept hg9 (own_types N3.out.rs N3.out.res (fun e => tabInt e.symm)), N3.out.rb.kept hg9 (own_types N3.out.rb N3.out.res banTab)⟩, (N3.out.cur.kept hg9 (fun x hx => by injection hx with hx; have := N3.out.hg; omega)).mono (by omega), grown_new N3.out.grown hg9 (fun x hx => by injection hx with hx; omega)⟩
          · have d2 : (r == 2) = false := by simpa using e2
            have d2' : decide (r = 2) = false := by simpa using e2
            by_cases e3 : r = 3
            · subst e3
              have E9 := (Ext.refl w2).alloc (.cells #[] 3)
              have N3 := Lib.hid (N2.out.step E9)
              have o9 := own_empty w2 w0.heap.size 3 1 N2.out.grown.size
              have N4 := Lib.hid (N3.out.sized (ss' := []) o9 (World.grownBy.refl _ _))
              have cx9 := own_at N3.out.box (j := 0) rfl
              have cz9 : gt < (w2.alloc (.cells #[] 3)).heap.size := World.block_lt_of_cell? _ _ cx9
              have cf9 := N3.out.box.frozenAt 0
              simp only [World.size_alloc] at cz9
              have HF := Lib.hid (show KFin w0 g (b + 200) gt _ from ⟨_, 0, 0, _, m, d, [], bs, by omega, by omega, (fun x hx => by cases hx), hbs, ⟨_, rfl⟩, .inr hB, N4.out.mono (by omega)⟩)
              go_upto_region 24 with fail
              clear N2 N3 N4 cx9 cz9 cf9
              generalize (w2.alloc (.cells #[] 3)).setCell _ _ = WF at *
              obtain ⟨A, n, c, B, m, d, ss, bs, hn6, hm6, hss, hbs, hA, hB, hst⟩ := HF.out
              have N3 := Lib.hid hst
              have c0 := own_at N3.out.box (j := 0) rfl
              have c1 := own_at N3.out.box (j := 1) rfl
              have cz : gt < WF.heap.size := World.block_lt_of_cell? WF _ c0
              clear hst HF
              go_wp2_with (refine wpList_store_own rfl 27 (.tmp 2) (.tmp 124) rfl w0.heap.size 0 [.slice A n c, .slice B m d] rfl rfl w0.heap.size 27 2 1 1 _ N3.out.res (by simp) sizeTab rfl ?_; intro w9 ho9 hg9)
              have q0 := own_at ho9 (j := 0) rfl
              have q1 := own_at ho9 (j := 1) rfl
              exact bodyPost_ret (v := .agg #[.slice A n c, .slice B m d]) (by simp [results, Try.results30, go_sem, q0, q1]) rfl ⟨_, rfl, ⟨A, n, c, B, m, d, ss, bs, rfl, hn6, hm6, hss, hbs, hA, hB, N3.out.rs.kept hg9 (own_types N3.out.rs N3.out.res (fun e => tabInt e.symm)), N3.out.rb.kept hg9 (own_types N3.out.rb N3.out.res banTab)⟩, (N3.out.cur.kept hg9 (fun x hx => by injection hx with hx; have := N3.out.hg; omega)).mono (by omega), grown_new N3.out.grown hg9 (fun x hx => by injection hx with hx; omega)⟩
            · have d3 : (r == 3) = false := by simpa using e3
              have d3' : decide (r = 3) = false := by simpa using e3
              have HF := Lib.hid (show KFin w0 g (b + 200) gt _ from ⟨_, n, c, _, m, d, ss, bs, by omega, by omega, hss, hbs, hA, .inr hB, N2.out.mono (by omega)⟩)
              clear N2
              obtain ⟨WF, rfl⟩ : ∃ WF : World, WF = w2 := ⟨_, rfl⟩
              obtain ⟨A, n, c, B, m, d, ss, bs, hn6, hm6, hss, hbs, hA, hB, hst⟩ := HF.out
              have N3 := Lib.hid hst
              have c0 := own_at N3.out.box (j := 0) rfl
              have c1 := own_at N3.out.box (j := 1) rfl
              have cz : gt < WF.heap.size := World.block_lt_of_cell? WF _ c0
              clear hst HF
              go_wp2_with (refine wpList_store_own rfl 27 (.tmp 2) (.tmp 124) rfl w0.heap.size 0 [.slice A n c, .slice B m d] rfl rfl w0.heap.size 27 2 1 1 _ N3.out.res (by simp) sizeTab rfl ?_; intro w9 ho9 hg9)
              have q0 := own_at ho9 (j := 0) rfl
              have q1 := own_at ho9 (j := 1) rfl
              exact bodyPost_ret (v := .agg #[.slice A n c, .slice B m d]) (by simp [results, Try.results30, go_sem, q0, q1]) rfl ⟨_, rfl, ⟨A, n, c, B, m, d, ss, bs, rfl, hn6, hm6, hss, hbs, hA, hB, N3.out.rs.kept hg9 (own_types N3.out.rs N3.out.res (fun e => tabInt e.symm)), N3.out.rb.kept hg9 (own_types N3.out.rb N3.out.res banTab)⟩, (N3.out.cur.kept hg9 (fun x hx => by injection hx with hx; have := N3.out.hg; omega)).mono (by omega), grown_new N3.out.grown hg9 (fun x hx => by injection hx with hx; omega)⟩
end Go.Proofs.Ytekggbmpogmlcaa

namespace Go.Proofs.Ytekggbmpogmlcaa
open Go.RowKit
set_option linter.unusedVariables false
set_option linter.unusedSimpArgs false
attribute [local go_sem] ExtOf.cell

/-- A table that was drawn: its rows are its own. -/
structure DrawnT (base : Nat) (A : Option Addr) (n c : Nat) (B : Option Addr) (m d : Nat) (ss : List Int) (bs : List Ban) (w : World) : Prop where
  rs : w.ownsRow base 3 1 (.slice A n c) n (ints ss)
  rb : w.ownsRow base 42 4 (.slice B m d) m (bs.flatMap Ban.cs)
  hn : n ≤ 6
  hm : m ≤ 6
  hs : Hid (∀ x ∈ ss, 0 ≤ x ∧ x ≤ 6)
  hb : Hid (∀ x ∈ bs, BanSm x)
  hA : ∃ q, A = some ⟨q, 0, none⟩
  hB : (B = none ∧ bs = []) ∨ ∃ q, B = some ⟨q, 0, none⟩
section
variable {base : Nat} {w w' : World} {A B : Option Addr} {n c m d : Nat} {ss : List Int} {bs : List Ban}
theorem DrawnT.ext (h : DrawnT base A n c B m d ss bs w) (he : Ext w w') : DrawnT base A n c B m d ss bs w' := ⟨he.own h.rs, he.own h.rb, h.hn, h.hm, h.hs, h.hb, h.hA, h.hB⟩
theorem DrawnT.low (h : DrawnT base A n c B m d ss bs w) {b' : Nat} (hb : b' ≤ base) : DrawnT b' A n c B m d ss bs w := ⟨own_low' h.rs hb, own_low' h.rb hb, h.hn, h.hm, h.hs, h.hb, h.hA, h.hB⟩
/-- A table's box is stored to. -/
theorem DrawnT.past (h : DrawnT base A n c B m d ss bs w) {b k : Nat} {v : Value} {cs : List Value} (ho : w.ownsRow b 27 2 v k cs) (hg : w.grownBy w' v.ownBlock) : DrawnT base A n c B m d ss bs w' :=
  ⟨h.rs.kept hg (own_types h.rs ho (fun e => tabInt e.symm)), h.rb.kept hg (own_types h.rb ho banTab), h.hn, h.hm, h.hs, h.hb, h.hA, h.hB⟩
/-- Choices are taken. -/
theorem DrawnT.drawn (h : DrawnT base A n c B m d ss bs w) {g : Nat} (hg : w.grownBy w' (some g)) (hlt : g < base) : DrawnT base A n c B m d ss bs w' := by
  have e : ∀ {T size k : Nat} {v : Value} {cs : List Value}, w.ownsRow base T size v k cs → v.ownBlock = none ∨ v.ownBlock ≠ some g := fun {T size k v cs} ho => by
    rcases hv : v.ownBlock with _ | q
    · exact .inl rfl
    · right
      intro e
      have h1 := (ho.lt q hv).1
      injection e with e
      omega
  exact ⟨h.rs.kept hg (e h.rs), h.rb.kept hg (e h.rb), h.hn, h.hm, h.hs, h.hb, h.hA, h.hB⟩
theorem DrawnT.tab (h : DrawnT base A n c B m d ss bs w) : TabL w A n B m ss bs := by
  have h1 := h.rs.1
  have h2 := h.rb.1
  have h3 := h.hn
  have h4 := h.hm
  rw [ints_length] at h1
  rw [flat_length Ban.cs 4 Ban.len] at h2
  exact ⟨by omega, by omega, fun x hx => wf_i64 (smI x (by have := h.hs.out x hx; omega) (by have := h.hs.out x hx; omega)), Rd.own h.rs, ⟨by omega, by omega, fun x hx => (h.hb.out x hx).wf, Rd.own h.rb⟩⟩
theorem DrawnT.caps (h : DrawnT base A n c B m d ss bs w) : n ≤ c ∧ m ≤ d := ⟨own_le h.rs, own_le h.rb⟩
end
set_option maxRecDepth 100000 in
set_option maxHeartbeats 4000000 in
theorem DrawIsKindTable_any (A : Option Addr) (n c : Nat) (l : List Int) (w : World) (h : CodeOk w A n l) :
    Calls Try.prog 20 #[.slice A n c] w fun e w' => ∃ A1 n1 c1 B1 m1 d1 ss bs, e = .returned (.agg #[.slice A1 n1 c1, .slice B1 m1 d1]) ∧ DrawnT w.heap.size A1 n1 c1 B1 m1 d1 ss bs w' ∧ Ext w w' := by
  have OZ := Lib.hid (own_block w 27 [.slice none 0 0, .slice none 0 0])
  have E0 := (Ext.refl w).alloc (.cells #[.slice none 0 0, .slice none 0 0] 27)
  have K := Lib.hid ((h.ext E0).cur c)
  simp only [World.size_alloc] at K
  have nz : Value.ownBlock (.slice (some ⟨w.heap.size, 0, none⟩) 1 1) = none ∨ Value.ownBlock (.slice (some ⟨w.heap.size, 0, none⟩) 1 1) ≠ some (w.heap.size + 1) := Or.inr (by simp [Value.ownBlock])
  go_enter Try.func20, Try.ntmps20
  go_wp2_with fail
  refine (kindTable_any _ _ _ K.out (by omega)).mono ?_
  rintro e w2 ⟨v, rfl, ⟨A1, n1, c1, B1, m1, d1, ss, bs, rfl, hn, hm, hs, hb, hA, hB, rs, rb⟩, C2, G2⟩
  have OZ5 := Lib.hid (((Ext.refl _).alloc _).own OZ.out |>.kept G2 nz)
  have HD := Lib.hid (show DrawnT w.heap.size A1 n1 c1 B1 m1 d1 ss bs w2 from ⟨own_low' rs (show w.heap.size ≤ _ by simp; omega), own_low' rb (show w.heap.size ≤ _ by simp; omega), hn, hm, hs, hb, hA, hB⟩)
  have G := Lib.hid G2
  clear G2 C2 rs rb hn hm hs hb hA hB
  go_wp2_with (refine wpList_store_own rfl 27 (.tmp 2) (.tmp 8) rfl w.heap.size 0 [.slice A1 n1 c1, .slice B1 m1 d1] rfl rfl w.heap.size 27 2 1 1 _ OZ5.out (by simp) sizeTab rfl ?_; intro w9 ho9 hg9)
  have r0 := own_at ho9 (j := 0) rfl
  have r1 := own_at ho9 (j := 1) rfl
  have EF := Lib.hid ((E0.trans (ext_of_cur (w := w.alloc (.cells #[.slice none 0 0, .slice none 0 0] 27)) (by rw [World.size_alloc]; exact G.out))).row hg9 (Nat.le_refl _))
  exact bodyPost_ret (v := .agg #[.slice A1 n1 c1, .slice B1 m1 d1]) (by simp [results, Try.results20, go_sem, r0, r1]) rfl ⟨A1, n1, c1, B1, m1, d1, ss, bs, rfl, DrawnT.past HD.out OZ5.out hg9, EF.out⟩
set_option maxRecDepth 100000 in
set_option maxHeartbeats 4000000 in
theorem DrawNeedlessBans_any (A : Option Addr) (n c : Nat) (l : List Int) (w : World) (h : CodeOk w A n l) :
    Calls Try.prog 5 #[.slice A n c] w fun e w' => ∃ A1 n1 c1 B1 m1 d1 ss bs, e = .returned (.agg #[.slice A1 n1 c1, .slice B1 m1 d1]) ∧ DrawnT w.heap.size A1 n1 c1 B1 m1 d1 ss bs w' ∧ Ext w w' := by
  have OZ := Lib.hid (own_block w 27 [.slice none 0 0, .slice none 0 0])
  have E0 := (Ext.refl w).alloc (.cells #[.slice none 0 0, .slice none 0 0] 27)
  have K := Lib.hid (h.ext E0)
  go_enter Try.func5, Try.ntmps5
  go_wp2_with fail
  refine (DrawIsKindTable_any A n c l _ K.out).mono ?_
  rintro e w1 ⟨A1, n1, c1, B1, m1, d1, ss, bs, rfl, hd, e1⟩
  have OZ5 := Lib.hid (e1.own OZ.out)
  have HD := Lib.hid (hd.low (show w.heap.size ≤ _ by simp))
  clear hd
  go_wp2_with (refine wpList_store_own rfl 27 (.tmp 2) (.tmp 4) rfl w.heap.size 0 [.slice A1 n1 c1, .slice B1 m1 d1] rfl rfl w.heap.size 27 2 1 1 _ OZ5.out (by simp) sizeTab rfl ?_; intro w9 ho9 hg9)
  have r0 := own_at ho9 (j := 0) rfl
  have r1 := own_at ho9 (j := 1) rfl
  have EF := Lib.hid ((E0.trans e1).row hg9 (Nat.le_refl _))
  exact bodyPost_ret (v := .agg #[.slice A1 n1 c1, .slice B1 m1 d1]) (by simp [results, Try.results5, go_sem, r0, r1]) rfl ⟨A1, n1, c1, B1, m1, d1, ss, bs, rfl, DrawnT.past HD.out OZ5.out hg9, EF.out⟩
theorem div16 {x : Int} (h0 : 0 ≤ x) (h1 : x < 17) : (x.tdiv 16 = 0 ∧ x / 16 = 0) ∨ (x.tdiv 16 = 1 ∧ x / 16 = 1) := by
  rw [Int.tdiv_eq_ediv_of_nonneg h0]; omega
set_option maxRecDepth 100000 in
set_option maxHeartbeats 4000000 in
theorem DrawKindsWith_any (A : Option Addr) (n c : Nat) (l : List Int) (w : World) (h : CodeOk w A n l) :
    Calls Try.prog 14 #[.slice A n c] w fun e w' => ∃ A1 n1 c1 B1 m1 d1 ss bs a1 a2, e = .returned (.tuple #[.agg #[.slice A1 n1 c1, .slice B1 m1 d1], .int .i64 a1, .int .i64 a2]) ∧ DrawnT w.heap.size A1 n1 c1 B1 m1 d1 ss bs w' ∧ Ext w w' := by
  have OZ := Lib.hid (own_block w 27 [.slice none 0 0, .slice none 0 0])
  have E0 := (Ext.refl w).alloc (.cells #[.slice none 0 0, .slice none 0 0] 27)
  have K := Lib.hid ((h.ext E0).cur c)
  simp only [World.size_alloc] at K
  have nz : Value.ownBlock (.slice (some ⟨w.heap.size, 0, none⟩) 1 1) = none ∨ Value.ownBlock (.slice (some ⟨w.heap.size, 0, none⟩) 1 1) ≠ some (w.heap.size + 1) := Or.inr (by simp [Value.ownBlock])
  go_enter Try.func14, Try.ntmps14
  go_wp2_with fail
  refine (kindTable_any _ _ _ K.out (by omega)).mono ?_
  rintro e w2 ⟨v, rfl, ⟨A1, n1, c1, B1, m1, d1, ss, bs, rfl, hn, hm, hs, hb, hA, hB, rs, rb⟩, C2, G2⟩
  have OZ2 := Lib.hid (((Ext.refl _).alloc _).own OZ.out |>.kept G2 nz)
  have HD := Lib.hid (show DrawnT (w.heap.size + 1 + 1) A1 n1 c1 B1 m1 d1 ss bs w2 from ⟨own_low' rs (by simp), own_low' rb (by simp), hn, hm, hs, hb, hA, hB⟩)
  clear rs rb hn hm hs hb hA hB
  go_wp2_with fail
  refine (pick_any _ _ 5 _ C2 (by omega) (by omega)).mono ?_
  rintro e w3 ⟨v, rfl, ⟨u, rfl, u0, u1⟩, C3, G3⟩
  go_wp2_with fail
  refine (pick_any _ _ 17 _ C3 (by omega) (by omega)).mono ?_
  rintro e w4 ⟨v, rfl, ⟨x, rfl, x0, x1⟩, C4, G4⟩
  have hx := div16 x0 (by omega)
  have OZ4 := Lib.hid ((OZ2.out.kept G3 nz).kept G4 nz)
  have HD4 := Lib.hid ((HD.out.drawn G3 (by omega)).drawn G4 (by omega))
  have G24 := Lib.hid (grown_trans G2 (grown_trans G3 G4))
  clear C2 C3 G2 G3 G4 HD OZ2
  rcases hx with ⟨e1, e2⟩ | ⟨e1, e2⟩
  all_goals
    go_wp2_with fail
    refine (pick_any _ _ 4 _ C4 (by omega) (by omega)).mono ?_
    rintro e w5 ⟨v, rfl, ⟨t, rfl, t0, t1⟩, C5, G5⟩
    go_wp2_with fail
    refine (pick_any _ _ 17 _ C5 (by omega) (by omega)).mono ?_
    rintro e w6 ⟨v, rfl, ⟨y, rfl, y0, y1⟩, C6, G6⟩
    have hy := div16 y0 (by omega)
    have OZ6 := Lib.hid ((OZ4.out.kept G5 nz).kept G6 nz)
    have HD6 := Lib.hid (((HD4.out.drawn G5 (by omega)).drawn G6 (by omega)).low (show w.heap.size ≤ _ by omega))
    have G := Lib.hid (grown_trans G24.out (grown_trans G5 G6))
    have EW := Lib.hid (E0.trans (ext_of_cur (w := w.alloc (.cells #[.slice none 0 0, .slice none 0 0] 27)) (by rw [World.size_alloc]; exact G.out)))
    clear C5 C6 G5 G6 HD4 OZ4 G G24
    rcases hy with ⟨f1, f2⟩ | ⟨f1, f2⟩
  · go_wp2_with (refine wpList_store_own rfl 27 (.tmp 2) (.tmp 10) rfl w.heap.size 0 [.slice A1 n1 c1, .slice B1 m1 d1] rfl rfl w.heap.size 27 2 1 1 _ OZ6.out (by simp) sizeTab rfl ?_; intro w9 ho9 hg9)
    have r0 := own_at ho9 (j := 0) rfl
    have r1 := own_at ho9 (j := 1) rfl
    have EF := Lib.hid (EW.out.row hg9 (Nat.le_refl _))
    exact bodyPost_ret (v := .tuple #[.agg #[.slice A1 n1 c1, .slice B1 m1 d1], .int .i64 (u), .int .i64 (t)]) (by simp [results, Try.results14, go_sem, r0, r1]) rfl ⟨A1, n1, c1, B1, m1, d1, ss, bs, _, _, rfl, HD6.out.past OZ6.out hg9, EF.out⟩
  · go_wp2_with (refine wpList_store_own rfl 27 (.tmp 2) (.tmp 10) rfl w.heap.size 0 [.slice A1 n1 c1, .slice B1 m1 d1] rfl rfl w.heap.size 27 2 1 1 _ OZ6.out (by simp) sizeTab rfl ?_; intro w9 ho9 hg9)
    have r0 := own_at ho9 (j := 0) rfl
    have r1 := own_at ho9 (j := 1) rfl
    have EF := Lib.hid (EW.out.row hg9 (Nat.le_refl _))
    exact bodyPost_ret (v := .tuple #[.agg #[.slice A1 n1 c1, .slice B1 m1 d1], .int .i64 (u), .int .i64 (t - 1)]) (by simp [results, Try.results14, go_sem, r0, r1]) rfl ⟨A1, n1, c1, B1, m1, d1, ss, bs, _, _, rfl, HD6.out.past OZ6.out hg9, EF.out⟩
  · go_wp2_with (refine wpList_store_own rfl 27 (.tmp 2) (.tmp 10) rfl w.heap.size 0 [.slice A1 n1 c1, .slice B1 m1 d1] rfl rfl w.heap.size 27 2 1 1 _ OZ6.out (by simp) sizeTab rfl ?_; intro w9 ho9 hg9)
    have r0 := own_at ho9 (j := 0) rfl
    have r1 := own_at ho9 (j := 1) rfl
    have EF := Lib.hid (EW.out.row hg9 (Nat.le_refl _))
    exact bodyPost_ret (v := .tuple #[.agg #[.slice A1 n1 c1, .slice B1 m1 d1], .int .i64 (u - 1), .int .i64 (t)]) (by simp [results, Try.results14, go_sem, r0, r1]) rfl ⟨A1, n1, c1, B1, m1, d1, ss, bs, _, _, rfl, HD6.out.past OZ6.out hg9, EF.out⟩
  · go_wp2_with (refine wpList_store_own rfl 27 (.tmp 2) (.tmp 10) rfl w.heap.size 0 [.slice A1 n1 c1, .slice B1 m1 d1] rfl rfl w.heap.size 27 2 1 1 _ OZ6.out (by simp) sizeTab rfl ?_; intro w9 ho9 hg9)
    have r0 := own_at ho9 (j := 0) rfl
    have r1 := own_at ho9 (j := 1) rfl
    have EF := Lib.hid (EW.out.row hg9 (Nat.le_refl _))
    exact bodyPost_ret (v := .tuple #[.agg #[.slice A1 n1 c1, .slice B1 m1 d1], .int .i64 (u - 1), .int .i64 (t - 1)]) (by simp [results, Try.results14, go_sem, r0, r1]) rfl ⟨A1, n1, c1, B1, m1, d1, ss, bs, _, _, rfl, HD6.out.past OZ6.out hg9, EF.out⟩
theorem sizeBan4 : (Try.prog.info? 42).map (·.size) = some 4 := by kernel_rfl
set_option maxRecDepth 100000 in
set_option maxHeartbeats 4000000 in
theorem DrawAddBan_any (A : Option Addr) (n c : Nat) (l : List Int) (w : World) (h : CodeOk w A n l) :
    Calls Try.prog 16 #[.slice A n c] w fun e w' => ∃ A1 n1 c1 B1 m1 d1 ss bs, ∃ b : Ban, e = .returned (.tuple #[.agg #[.slice A1 n1 c1, .slice B1 m1 d1], .agg #[.int .i64 b.A, .int .i64 b.X, .int .i64 b.B, .int .i64 b.Y]]) ∧ BanSm b ∧ DrawnT w.heap.size A1 n1 c1 B1 m1 d1 ss bs w' ∧ Ext w w' := by
  have oz := own_block w 27 [.slice none 0 0, .slice none 0 0]
  have oy := own_block (w.alloc (.cells #[.slice none 0 0, .slice none 0 0] 27)) 42 [.int .i64 0, .int .i64 0, .int .i64 0, .int .i64 0]
  simp only [World.size_alloc] at oy
  have E0 := ((Ext.refl w).alloc (.cells #[.slice none 0 0, .slice none 0 0] 27)).alloc (.cells #[.int .i64 0, .int .i64 0, .int .i64 0, .int .i64 0] 42)
  have OZ := Lib.hid (((Ext.refl _).alloc (.cells #[.int .i64 0, .int .i64 0, .int .i64 0, .int .i64 0] 42)).own oz)
  have OY := Lib.hid oy
  have K := Lib.hid ((h.ext E0).cur c)
  simp only [World.size_alloc] at K
  have nz : Value.ownBlock (.slice (some ⟨w.heap.size, 0, none⟩) 1 1) = none ∨ Value.ownBlock (.slice (some ⟨w.heap.size, 0, none⟩) 1 1) ≠ some (w.heap.size + 1 + 1) := Or.inr (by simp [Value.ownBlock]; omega)
  have ny : Value.ownBlock (.slice (some ⟨w.heap.size + 1, 0, none⟩) 1 1) = none ∨ Value.ownBlock (.slice (some ⟨w.heap.size + 1, 0, none⟩) 1 1) ≠ some (w.heap.size + 1 + 1) := Or.inr (by simp [Value.ownBlock])
  clear oz oy h
  go_enter Try.func16, Try.ntmps16
  go_wp2_with fail
  refine (kindTable_any _ _ _ K.out (by omega)).mono ?_
  rintro e w2 ⟨v, rfl, ⟨A1, n1, c1, B1, m1, d1, ss, bs, rfl, hn, hm, hs, hb, hA, hB, rs, rb⟩, C2, G2⟩
  have HD := Lib.hid (show DrawnT (w.heap.size + 1 + 1 + 1) A1 n1 c1 B1 m1 d1 ss bs w2 from ⟨own_low' rs (by simp), own_low' rb (by simp), hn, hm, hs, hb, hA, hB⟩)
  clear rs rb hn hm hs hb hA hB
  go_wp2_with fail
  refine (pick_any _ _ 3 _ C2 (by omega) (by omega)).mono ?_
  rintro e w3 ⟨v, rfl, ⟨a, rfl, a0, a1⟩, C3, G3⟩
  go_wp2_with fail
  refine (pick_any _ _ 3 _ C3 (by omega) (by omega)).mono ?_
  rintro e w4 ⟨v, rfl, ⟨x, rfl, x0, x1⟩, C4, G4⟩
  go_wp2_with fail
  refine (pick_any _ _ 4 _ C4 (by omega) (by omega)).mono ?_
  rintro e w5 ⟨v, rfl, ⟨b, rfl, b0, b1⟩, C5, G5⟩
  go_wp2_with fail
  refine (pick_any _ _ 3 _ C5 (by omega) (by omega)).mono ?_
  rintro e w6 ⟨v, rfl, ⟨y, rfl, y0, y1⟩, C6, G6⟩
  have OZ6 := Lib.hid (((((((Ext.refl _).alloc _).own OZ.out |>.kept G2 nz).kept G3 nz).kept G4 nz).kept G5 nz).kept G6 nz)
  have OY6 := Lib.hid (((((((Ext.refl _).alloc _).own OY.out |>.kept G2 ny).kept G3 ny).kept G4 ny).kept G5 ny).kept G6 ny)
  have HD6 := Lib.hid ((((HD.out.drawn G3 (by omega)).drawn G4 (by omega)).drawn G5 (by omega)).drawn G6 (by omega))
  have G := Lib.hid (grown_trans G2 (grown_trans G3 (grown_trans G4 (grown_trans G5 G6))))
  clear G2 G3 G4 G5 G6 C2 C3 C4 C5 C6 HD OZ OY
  go_wp2_with (first
    | (refine wpList_store_own rfl 27 (.tmp 2) (.tmp 9) rfl w.heap.size 0 [.slice A1 n1 c1, .slice B1 m1 d1] rfl rfl w.heap.size 27 2 1 1 _ OZ6.out (by simp) sizeTab rfl ?_; intro w8 ho8 hg8; have OY8 := Lib.hid (OY6.out.kept hg8 (Or.inr (by simp [Value.ownBlock]))))
    | (refine wpList_store_own rfl 42 (.tmp 3) (.tmp 18) rfl (w.heap.size + 1) 0 [.int .i64 a, .int .i64 x, .int .i64 b, .int .i64 y] rfl rfl (w.heap.size + 1) 42 4 1 1 _ OY8.out (by simp) sizeBan4 rfl ?_; intro w9 ho9 hg9))
  have ho8b := ho8.kept hg9 (Or.inr (by simp [Value.ownBlock]))
  have r0 := own_at ho8b (j := 0) rfl
  have r1 := own_at ho8b (j := 1) rfl
  have s0 := own_at ho9 (j := 0) rfl
  have s1 := own_at ho9 (j := 1) rfl
  have s2 := own_at ho9 (j := 2) rfl
  have s3 := own_at ho9 (j := 3) rfl
  have HD8 := Lib.hid (HD6.out.past OZ6.out hg8)
  have HD9 := Lib.hid (show DrawnT (w.heap.size + 1 + 1 + 1) A1 n1 c1 B1 m1 d1 ss bs w9 from HD8.out.drawn (g := w.heap.size + 1) hg9 (by omega))
  have EF := Lib.hid (((E0.trans (ext_of_cur (w := (w.alloc (.cells #[.slice none 0 0, .slice none 0 0] 27)).alloc (.cells #[.int .i64 0, .int .i64 0, .int .i64 0, .int .i64 0] 42)) (by simp only [World.size_alloc]; exact G.out))).row hg8 (Nat.le_refl _)).row hg9 (Nat.le_succ _))
  exact bodyPost_ret (v := .tuple #[.agg #[.slice A1 n1 c1, .slice B1 m1 d1], .agg #[.int .i64 a, .int .i64 x, .int .i64 b, .int .i64 y]]) (by simp [results, Try.results16, go_sem, r0, r1, s0, s1, s2, s3]) rfl ⟨A1, n1, c1, B1, m1, d1, ss, bs, ⟨a, x, b, y⟩, rfl, ⟨smI a (by omega) (by omega), smI x (by omega) (by omega), smI b (by omega) (by omega), smI y (by omega) (by omega)⟩, HD9.out.low (by omega), EF.out⟩
end Go.Proofs.Ytekggbmpogmlcaa

namespace Go.Proofs.Ytekggbmpogmlcaa
open Go.RowKit
set_option linter.unusedVariables false
set_option linter.unusedSimpArgs false
attribute [local go_sem] ExtOf.cell

def DeadPost (L : List Int) (ok : Bool) (w : World) : Ending → World → Prop := RowPost 58 2 (ints L) ok w
set_option maxRecDepth 100000 in
set_option maxHeartbeats 2000000 in
theorem DeadValuesS_any (A : Option Addr) (n c : Nat) (B : Option Addr) (m d : Nat) (ss : List Int) (bs : List Ban) (w : World) (h : TabL w A n B m ss bs) :
    Calls Try.prog 10 #[.agg #[.slice A n c, .slice B m d]] w (DeadPost (deadR ss bs) (TabOk ss bs) w) := by
  have eW := ((Ext.refl w).alloc (.cells #[.slice A n c, .slice B m d] 27)).alloc (.cells #[] 58)
  have hz1 : (w.alloc (.cells #[.slice A n c, .slice B m d] 27)).heap.size = w.heap.size + 1 := by simp
  have o0 := own_empty (w.alloc (.cells #[.slice A n c, .slice B m d] 27)) (w.heap.size + 1) 58 2 (by omega)
  rw [hz1] at o0
  have c0 : ((w.alloc (.cells #[.slice A n c, .slice B m d] 27)).alloc (.cells #[] 58)).cell? ⟨w.heap.size, 0, none⟩ = some (.slice A n c) := ((Ext.refl _).alloc _).cell1 (new_cell _ _ _ 0 _ rfl)
  have c1 : ((w.alloc (.cells #[.slice A n c, .slice B m d] 27)).alloc (.cells #[] 58)).cell? ⟨w.heap.size, 1, none⟩ = some (.slice B m d) := ((Ext.refl _).alloc _).cell1 (new_cell _ _ _ 1 _ rfl)
  have C0 := Lib.hid c0
  have C1 := Lib.hid c1
  have C := Lib.hid (l6Good_any A n c B m d ss bs _ (h.ext eW))
  have O0 := Lib.hid o0
  clear c0 c1 o0
  cases h1 : TabOk ss bs
  · rw [deadR_no h1]
    go_enter Try.func10, Try.ntmps10
    go_wp2_with (go_at_call 25; refine C.out.mono ?_; rintro e we ⟨rfl, he⟩; rw [h1])
    go_ret2
    exact ⟨some ⟨w.heap.size + 1, 0, none⟩, 0, 0, rfl, own_low' (he.own O0.out) (by omega), eW.trans he⟩
  · obtain ⟨⟨t1, t2⟩, t3, t4, t5⟩ := TabOk_all h1
    have D := Lib.hid (fun (t v : Nat) (ht : t < n) (w' : World) (he : Ext w w') => l6With_any A n c B m d ss bs t v w' (h.ext he) t4 t2 t5 (by omega))
    rw [deadR_yes h1]
    have hn := h.sm
    have HN := Lib.hid h.sl
    have HS := Lib.hid t4
    have HLEN := Lib.hid (deadTo_len (deadP ss bs) t4)
    have HP := Lib.hid (deadP_cnt ss bs)
    have hA := allN_small t4 t2
    clear t1 t2 t3 t4 t5
    go_enter Try.func10, Try.ntmps10
    go_wp2_with (go_at_call 25; refine C.out.mono ?_; rintro e we ⟨rfl, he⟩; rw [h1])
    have XB := Lib.hid (show Box2 w (.slice A n c) (.slice B m d) we from ⟨eW.trans he, he.cell1 C0.out, he.cell1 C1.out⟩)
    have O1 := Lib.hid (he.own O0.out)
    clear C0 C1 C O0 eW hz1
    go_loopw [4, 5] (fun o i wr => ∃ (k : Nat) (O : Option Addr) (q oc : Nat) (L : List Int), k ≤ n ∧ i = .int .i64 k ∧ o = .slice O q oc ∧ L = deadTo (deadP ss bs) ss k ∧ wr.ownsRow (w.heap.size + 1) 58 2 (.slice O q oc) q (ints L) ∧ Box2 w (.slice A n c) (.slice B m d) wr) (fun _ i _ => n - (intOf i).toNat)
    case atStart => exact ⟨0, some ⟨w.heap.size + 1, 0, none⟩, 0, 0, [], Nat.zero_le _, rfl, rfl, rfl, O1.out, XB.out⟩
    case round =>
      obtain ⟨k, O, q, oc, L, hkn, rfl, rfl, hL, ho, hek⟩ := hrel
      have HO := Lib.hid ho
      have HLL := Lib.hid hL
      have x0 := hek.c0
      have hz : w.heap.size < wr.heap.size := World.block_lt_of_cell? wr _ x0
      clear ho hL O1
      by_cases hlt : k < n
      · obtain ⟨b, off, s, rfl, hb, hx, gs⟩ := h.sr.int hlt
        have hs5 := HS.out s (List.mem_of_getElem? hx.out)
        obtain ⟨s, rfl⟩ : ∃ t : Nat, s = t := ⟨s.toNat, by omega⟩
        have hs1 : s ≤ 5 := by omega
        have GS := Lib.hid gs
        clear gs hs5
        go_wp2
        obtain ⟨wo, rfl⟩ : ∃ wo : World, wo = wr := ⟨_, rfl⟩
        go_loopw [4, 6] (fun o i wr => ∃ (v : Nat) (O : Option Addr) (q oc : Nat) (L : List Int), v ≤ s ∧ i = .int .i64 v ∧ o = .slice O q oc ∧ L = deadTo (deadP ss bs) ss k ++ deadRow (deadP ss bs) k v ∧ wr.ownsRow (w.heap.size + 1) 58 2 (.slice O q oc) q (ints L) ∧ Box2 w (.slice (some ⟨b, off, none⟩) n c) (.slice B m d) wr) (fun _ i _ => s - (intOf i).toNat)
        case atStart => exact ⟨0, O, q, oc, L, Nat.zero_le _, rfl, rfl, by rw [HLL.out, deadRow_zero, List.append_nil], HO.out, hek⟩
        case round =>
          obtain ⟨v, O, q, oc, L, hvs, rfl, rfl, hL, ho, hev⟩ := hrel
          have HO2 := Lib.hid ho
          have HL2 := Lib.hid hL
          have y0 := hev.c0
          have y1 := hev.c1
          have hzr : w.heap.size < wr.heap.size := World.block_lt_of_cell? wr _ y0
          have gs1 := hev.ext.cell1 GS.out
          have hbr : b < wr.heap.size := World.block_lt_of_cell? wr _ gs1
          have hq2 : q ≤ 1000 := by
            have h1 := ho.1
            rw [ints_length, hL, List.length_append] at h1
            have h2 := HLEN.out k (by have := HN.out; omega)
            have h3 := deadRow_len (deadP ss bs) k v
            have h4 := HN.out
            have h5 : ss.length ≤ 5 := by
              have := TabOk_all (by assumption)
              omega
            omega
          clear ho hL
          by_cases hlv : v < s
          · have D1 := Lib.hid (D.out k v hlt wr hev.ext)
            have hcn := cnt_le (withP ss bs k v) (allN ss)
            cases hp : deadP ss bs k v
            · have hs := Lib.hid (deadRow_no hp)
              rw [HP.out] at hp
              have hp2 : ¬ cnt (withP ss bs k v) (allN ss) = 0 := by simpa using hp
              clear hp
              generalize cnt (withP ss bs k v) (allN ss) = cn at *
              go_wp2_with (go_at_call 26; refine D1.out.mono ?_; rintro e wa ⟨rfl, he1⟩; have hcz : decide ((cn : Int) = 0) = false := by simp; omega)
              go_roundw
              case rel => exact ⟨v + 1, O, q, oc, L, by omega, by go_num, rfl, by rw [hs.out]; exact HL2.out, he1.own HO2.out, hev.step he1⟩
              case measure => simp [intOf]; omega
            · have hs := Lib.hid (deadRow_yes hp)
              rw [HP.out] at hp
              have hp2 : cnt (withP ss bs k v) (allN ss) = 0 := by simpa using hp
              rw [hp2] at D1
              clear hp hp2 hcn
              go_wp2_with (first | (go_at_call 26; refine D1.out.mono ?_; rintro e wa ⟨rfl, he1⟩) | (at_builtin; refine app_pr rfl (.tmp 33) (.tmp 37) rfl (w.heap.size + 1) q oc wa.heap.size O L (k : Int) (v : Int) rfl rfl ((he1.own HO2.out).alloc _) (new_cell _ _ _ 0 _ rfl) (new_cell _ _ _ 1 _ rfl) (by omega) (by have := he1.size; simp only [World.size_alloc]; omega) ?_; intro O' oc' w' hown' hgrow))
              go_roundw
              case rel => exact ⟨v + 1, O', q + 1, oc', L ++ [(k : Int), (v : Int)], by omega, by go_num, rfl, by rw [HL2.out, hs.out, List.append_assoc], hown', ((hev.step he1).step ((Ext.refl _).alloc _)).grow ((he1.own HO2.out).alloc _) hgrow⟩
              case measure => simp [intOf]; omega
          · obtain rfl : v = s := by omega
            go_wp2
            go_roundw
            case rel => exact ⟨k + 1, O, q, oc, L, by omega, by go_num, rfl, by rw [deadTo_succ, sizeAt_get hx.out, Int.toNat_natCast]; exact HL2.out, HO2.out, hev⟩
            case measure => simp [intOf]; omega
      · obtain rfl : k = n := by omega
        go_wp2
        go_ret2
        exact ⟨O, q, oc, rfl, by rw [HN.out, ← HLL.out]; exact own_low' HO.out (by omega), hek.ext⟩
theorem intPair : (3 : Nat) ≠ 58 := by decide
set_option maxRecDepth 100000 in
set_option maxHeartbeats 2000000 in
theorem DeadValuesI_any (A : Option Addr) (n c : Nat) (B : Option Addr) (m d : Nat) (ss : List Int) (bs : List Ban) (w : World) (h : TabL w A n B m ss bs) :
    Calls Try.prog 9 #[.agg #[.slice A n c, .slice B m d]] w (DeadPost (deadR ss bs) (TabOk ss bs) w) := by
  have eW := (Ext.refl w).alloc (.cells #[.slice A n c, .slice B m d] 27)
  have C := Lib.hid (isKindTable_any w.heap.size A n c B m d ss bs _ (h.ext eW) (new_cell _ _ _ 0 _ rfl) (new_cell _ _ _ 1 _ rfl))
  cases h1 : TabOk ss bs
  · rw [deadR_no h1]
    go_enter Try.func9, Try.ntmps9
    go_wp2_with (go_at_call 21; refine C.out.mono ?_; rintro e we ⟨rfl, he⟩; rw [h1])
    go_ret2
    exact ⟨none, 0, 0, rfl, own_nil _ _ _ _, eW.trans he⟩
  · obtain ⟨⟨t1, t2⟩, t3, t4, t5⟩ := TabOk_all h1
    have D := Lib.hid (fun (w' : World) (he : Ext w w') (p0 : w'.cell? ⟨w.heap.size, 0, none⟩ = some (.slice A n c)) (p1 : w'.cell? ⟨w.heap.size, 1, none⟩ = some (.slice B m d)) => kinds_any w.heap.size A n c B m d ss bs w' (h.ext he) p0 p1 t4 t2 t5)
    rw [deadR_yes h1]
    have hn := h.sm
    have hn5 : ss.length ≤ 5 := t2
    have HN := Lib.hid h.sl
    have HS := Lib.hid t4
    have HLEN := Lib.hid (deadTo_len (deadP ss bs) t4)
    have HP := Lib.hid (show ∀ a v : Nat, deadP ss bs a v = !((frees ss bs).any (withQ a v)) from fun a v => rfl)
    have HFL := Lib.hid (fun x => @frees_len ss bs x)
    clear t1 t2 t3 t4 t5
    go_enter Try.func9, Try.ntmps9
    go_wp2_with (first | (go_at_call 21; refine C.out.mono ?_; rintro e we ⟨rfl, he⟩; rw [h1]; have p0 := he.cell1 (new_cell w #[.slice A n c, .slice B m d] 27 0 _ rfl); have p1 := he.cell1 (new_cell w #[.slice A n c, .slice B m d] 27 1 _ rfl)) | (go_at_call 22; refine (D.out _ (eW.trans he) p0 p1).mono ?_; rintro e wf ⟨Z, q, oc, zs, rfl, hzl, hzs, hL, hf⟩; have q0 := hf.cell1 p0; have q1 := hf.cell1 p1; have hzf : w.heap.size < wf.heap.size := World.block_lt_of_cell? wf _ q0))
    have HL := Lib.hid hL
    have HZL := Lib.hid hzl
    have HZS := Lib.hid hzs
    have HZN := Lib.hid (show ∀ z ∈ zs, z.2.length = n from fun z hz => by
      have : z.2 ∈ frees ss bs := by rw [← hzs]; exact List.mem_map_of_mem hz
      rw [HFL.out _ this]; exact HN.out)
    have EW := Lib.hid (eW.trans (he.trans hf))
    have hcap := own_cap hL.row
    rw [hzl] at hcap
    unfold maxLen at hcap
    clear hL hzl hzs C D p0 p1 eW he hf
    go_loopw [5, 15] (fun o i wr => ∃ (k : Nat) (O : Option Addr) (p pc : Nat) (L : List Int), k ≤ n ∧ i = .int .i64 k ∧ o = .slice O p pc ∧ L = deadTo (deadP ss bs) ss k ∧ wr.ownsRow wf.heap.size 58 2 (.slice O p pc) p (ints L) ∧ Ext wf wr) (fun _ i _ => n - (intOf i).toNat)
    case atStart => exact ⟨0, none, 0, 0, [], Nat.zero_le _, rfl, rfl, rfl, own_nil _ _ _ _, Ext.refl _⟩
    case round =>
      obtain ⟨k, O, p, pc, L, hkn, rfl, rfl, hL, ho, hek⟩ := hrel
      have HO := Lib.hid ho
      have HLL := Lib.hid hL
      clear ho hL
      by_cases hlt : k < n
      · obtain ⟨b, off, s, rfl, hb, hx, gs⟩ := (h.sr.ext (EW.out.trans hek)).int hlt
        have hs5 := HS.out s (List.mem_of_getElem? hx.out)
        obtain ⟨s, rfl⟩ : ∃ t : Nat, s = t := ⟨s.toNat, by omega⟩
        have hs1 : s ≤ 5 := by omega
        have BT := Lib.hid (own_low' (own_block wr 3 [.int .i64 (k : Int)]) (Nat.zero_le _))
        clear hs5
        go_wp2
        obtain ⟨wo, rfl⟩ : ∃ wo : World, wo = wr := ⟨_, rfl⟩
        go_loopw [5, 21] (fun o i wr => ∃ (v : Nat) (O : Option Addr) (p pc : Nat) (L : List Int), v ≤ s ∧ i = .int .i64 v ∧ o = .slice O p pc ∧ L = deadTo (deadP ss bs) ss k ++ deadRow (deadP ss bs) k v ∧ wr.ownsRow wf.heap.size 58 2 (.slice O p pc) p (ints L) ∧ Ext wf wr ∧ wr.ownsRow 0 3 1 (.slice (some ⟨wo.heap.size, 0, none⟩) 1 1) 1 [.int .i64 (k : Int)]) (fun _ i _ => s - (intOf i).toNat)
        case atStart => exact ⟨0, O, p, pc, L, Nat.zero_le _, rfl, rfl, by rw [HLL.out, deadRow_zero, List.append_nil], HO.out.alloc _, hek.alloc _, BT.out⟩
        case round =>
          obtain ⟨v, O, p, pc, L, hvs, rfl, rfl, hL, ho, hev, hbt⟩ := hrel
          have HO2 := Lib.hid ho
          have HL2 := Lib.hid hL
          have HBT := Lib.hid hbt
          have hp2 : p ≤ 1000 := by
            have h1 := ho.1
            rw [ints_length, hL, List.length_append] at h1
            have h2 := HLEN.out k (by have := HN.out; omega)
            have h3 := deadRow_len (deadP ss bs) k v
            have h4 := HN.out
            omega
          have a0 := own_at hbt (j := 0) rfl
          have ha0 : wo.heap.size < wr.heap.size := World.block_lt_of_cell? wr _ a0
          clear ho hL hbt
          by_cases hlv : v < s
          · have D1 := Lib.hid (ContainsDead_any wo.heap.size wr.heap.size k (v : Int) Z q oc _ n zs _ (wr.alloc (.cells #[.int .i64 (v : Int)] 3)) (((Ext.refl _).alloc _).cell1 a0) (new_cell _ _ _ 0 _ rfl) hlt hn (HL.out.ext (hev.alloc _)) HZL.out HZN.out HZS.out)
            have HPV := Lib.hid (HP.out k v)
            cases hp : (frees ss bs).any (withQ k v)
            · rw [hp] at D1
              have hs := Lib.hid (deadRow_yes (HPV.out.trans (show _ = true by rw [hp]; rfl)))
              go_wp2_with (first | (go_at_call 27; refine D1.out.mono ?_; rintro e wa ⟨rfl, he1⟩; have b0 := he1.cell1 (((Ext.refl _).alloc _).cell1 a0); have b1 := he1.cell1 (new_cell wr #[.int .i64 (v : Int)] 3 0 _ rfl); have hb0 : wo.heap.size < wa.heap.size := World.block_lt_of_cell? wa _ b0; have hb1 : wr.heap.size < wa.heap.size := World.block_lt_of_cell? wa _ b1; have EA := Lib.hid ((((Ext.refl wr).alloc (.cells #[.int .i64 (v : Int)] 3)).trans he1).alloc (.cells #[.int .i64 (k : Int), .int .i64 (v : Int)] 58))) | (at_builtin; refine app_pr rfl (.tmp 28) (.tmp 32) rfl wf.heap.size p pc wa.heap.size O L (k : Int) (v : Int) rfl rfl (EA.out.own HO2.out) (new_cell _ _ _ 0 _ rfl) (new_cell _ _ _ 1 _ rfl) (by omega) (by have := (hev.trans EA.out).size; exact this) ?_; intro O' oc' w' hown' hgrow))
              go_roundw
              case rel => exact ⟨v + 1, O', p + 1, oc', L ++ [(k : Int), (v : Int)], by omega, by go_num, rfl, by rw [HL2.out, hs.out, List.append_assoc], hown', (hev.trans EA.out).grown hgrow (fun x hx => (HO2.out.lt x hx).1), (EA.out.own HBT.out).kept hgrow (own_types (EA.out.own HBT.out) (EA.out.own HO2.out) intPair)⟩
              case measure => simp [intOf]; omega
            · rw [hp] at D1
              have hs := Lib.hid (deadRow_no (HPV.out.trans (show _ = false by rw [hp]; rfl)))
              go_wp2_with (go_at_call 27; refine D1.out.mono ?_; rintro e wa ⟨rfl, he1⟩)
              have EA := ((Ext.refl wr).alloc (.cells #[.int .i64 (v : Int)] 3)).trans he1
              go_roundw
              case rel => exact ⟨v + 1, O, p, pc, L, by omega, by go_num, rfl, by rw [hs.out]; exact HL2.out, EA.own HO2.out, hev.trans EA, EA.own HBT.out⟩
              case measure => simp [intOf]; omega
          · obtain rfl : v = s := by omega
            go_wp2
            go_roundw
            case rel => exact ⟨k + 1, O, p, pc, L, by omega, by go_num, rfl, by rw [deadTo_succ, sizeAt_get hx.out, Int.toNat_natCast]; exact HL2.out, HO2.out, hev⟩
            case measure => simp [intOf]; omega
      · obtain rfl : k = n := by omega
        go_wp2
        go_ret2
        exact ⟨O, p, pc, rfl, by rw [HN.out, ← HLL.out]; exact own_low' HO.out (EW.out.size), EW.out.trans hek⟩
end Go.Proofs.Ytekggbmpogmlcaa

namespace Go.Proofs.Ytekggbmpogmlcaa
open Go.RowKit
set_option linter.unusedVariables false
set_option linter.unusedSimpArgs false

/-- How many of a list have the first number v. -/
def headIs (v : Int) (x : List Int) : Bool := withQ 0 v x
/-- The kinds whose first number is below v. -/
def below (L : List (List Int)) (v : Nat) : Nat := (L.filter fun x => decide (sizeAt x 0 < v)).length
theorem below_zero {L : List (List Int)} (h : ∀ x ∈ L, 0 ≤ sizeAt x 0) : below L 0 = 0 := by
  unfold below
  rw [List.length_eq_zero_iff, List.filter_eq_nil_iff]
  intro x hx
  have := h x hx
  simp; omega
theorem below_succ (L : List (List Int)) (v : Nat) : below L (v + 1) = below L v + (L.filter (withQ 0 v)).length := by
  induction L with
  | nil => rfl
  | cons x l ih =>
    unfold below at *
    simp only [List.filter_cons]
    have e : withQ 0 v x = decide (sizeAt x 0 = v) := by simp [withQ]; rw [Bool.eq_iff_iff]; simp
    rw [e]
    simp only [Int.natCast_add, Int.natCast_one] at ih
    rcases Int.lt_trichotomy (sizeAt x 0) v with h | h | h
    · have a1 : decide (sizeAt x 0 < ((v + 1 : Nat) : Int)) = true := by simp; omega
      have a2 : decide (sizeAt x 0 < (v : Int)) = true := by simpa using h
      have a3 : decide (sizeAt x 0 = (v : Int)) = false := by simp; omega
      rw [a1, a2, a3]; simp; omega
    · have a1 : decide (sizeAt x 0 < ((v + 1 : Nat) : Int)) = true := by simp; omega
      have a2 : decide (sizeAt x 0 < (v : Int)) = false := by simp; omega
      have a3 : decide (sizeAt x 0 = (v : Int)) = true := by simpa using h
      rw [a1, a2, a3]; simp; omega
    · have a1 : decide (sizeAt x 0 < ((v + 1 : Nat) : Int)) = false := by simp; omega
      have a2 : decide (sizeAt x 0 < (v : Int)) = false := by simp; omega
      have a3 : decide (sizeAt x 0 = (v : Int)) = false := by simp; omega
      rw [a1, a2, a3]; simpa using ih
theorem below_all {L : List (List Int)} {s : Nat} (h : ∀ x ∈ L, sizeAt x 0 < s) : below L s = L.length := by
  unfold below
  rw [List.filter_eq_self.2]
  intro x hx
  simpa using h x hx
/-- The first number of a kind that is compatible. -/
theorem frees_head {ss : List Int} {bs : List Ban} (h : TabOk ss bs = true) {x : List Int} (hx : x ∈ frees ss bs) : 0 ≤ sizeAt x 0 ∧ sizeAt x 0 < sizeAt ss 0 := by
  obtain ⟨t1, _, t3, _⟩ := TabOk_all h
  unfold frees at hx
  obtain ⟨hx, _⟩ := List.mem_filter.1 hx
  unfold kindsTo at hx
  obtain ⟨j, _, rfl⟩ := List.mem_map.1 hx
  have hk := kindAt_ok ss j (fun s hs => (t3 s hs).1)
  have hl := kindAt_len ss j
  obtain ⟨s0, h0⟩ : ∃ s0, ss[0]? = some s0 := ⟨_, List.getElem?_eq_getElem (by omega)⟩
  obtain ⟨v0, hv⟩ : ∃ v0, (kindAt ss j)[0]? = some v0 := ⟨_, List.getElem?_eq_getElem (by omega)⟩
  unfold sizeAt
  rw [show (0 : Int).toNat = 0 from rfl, h0, hv]
  simp only [Option.getD_some]
  unfold KindOk at hk
  simp only [Bool.and_eq_true] at hk
  have := List.all_eq_true.1 hk.2 _ (List.mem_of_getElem? (zip_get hv h0))
  simp only [zbad, Bool.not_not] at this
  have := inB_iff.1 this
  omega
/-- The kinds with the values of trait 0 below v, as the statement sums them. -/
def sumTo (ss : List Int) (bs : List Ban) : Nat → Int
  | 0 => 0
  | v + 1 => sumTo ss bs v + withR ss bs 0 v
theorem with_yes {ss : List Int} {bs : List Ban} (h : TabOk ss bs = true) {v : Nat} (hv : (v : Int) < sizeAt ss 0) : askW ss bs 0 v = true ∧ withR ss bs 0 v = (((frees ss bs).filter (withQ 0 v)).length : Nat) := by
  obtain ⟨t1, _⟩ := TabOk_all h
  have ha : askW ss bs 0 v = true := by
    simp only [askW, traitOk, Bool.and_eq_true]
    exact ⟨h, inB_iff.2 ⟨by omega, by omega⟩, inB_iff.2 ⟨by omega, by omega⟩⟩
  exact ⟨ha, withR_yes ha⟩
theorem sum_below {ss : List Int} {bs : List Ban} (h : TabOk ss bs = true) : ∀ v : Nat, (v : Int) ≤ sizeAt ss 0 → sumTo ss bs v = (below (frees ss bs) v : Nat)
  | 0, _ => by rw [below_zero (fun x hx => (frees_head h hx).1)]; rfl
  | v + 1, hv => by
    have hv2 : (v : Int) + 1 ≤ sizeAt ss 0 := by simpa using hv
    rw [sumTo, sum_below h v (by omega), (with_yes h (by omega)).2, below_succ, Int.natCast_add]
theorem sum_all {ss : List Int} {bs : List Ban} (h : TabOk ss bs = true) {n : Nat} (hn : (n : Int) = sizeAt ss 0) : sumTo ss bs n = countR ss bs := by
  rw [sum_below h n (by omega), below_all (fun x hx => by have := (frees_head h hx).2; omega), countR_yes h]
theorem sum_bd (ss : List Int) (bs : List Ban) (h : TabOk ss bs = true) (v : Nat) (hv : (v : Int) ≤ sizeAt ss 0) : 0 ≤ sumTo ss bs v ∧ sumTo ss bs v ≤ 3125 := by
  obtain ⟨t1, _, t3, _⟩ := TabOk_all h
  rw [sum_below h v hv]
  have h1 : below (frees ss bs) v ≤ (frees ss bs).length := by unfold below; exact List.length_filter_le _ _
  have h2 : (frees ss bs).length ≤ allN ss := by unfold frees; have := List.length_filter_le (freeOf bs) (kindsTo ss (allN ss)); rw [kindsTo_len] at this; exact this
  have h3 := allN_small t3 (by omega)
  omega
/-- A kind more banned leaves no more kinds. -/
theorem frees_ins (ss : List Int) (bs : List Ban) (b : Ban) : (frees ss (insB bs b)).length ≤ (frees ss bs).length := by
  unfold frees
  have hsub : ∀ x : List Int, freeOf (insB bs b) x = true → freeOf bs x = true := fun x hx => by
    unfold freeOf at *
    simp only [Bool.not_eq_true', List.any_eq_false] at *
    intro y hy
    refine hx y ?_
    unfold insB
    rw [← List.take_append_drop (placeOf bs b) bs] at hy
    rcases List.mem_append.1 hy with hy | hy
    · exact List.mem_append.2 (.inl hy)
    · exact List.mem_append.2 (.inr (List.mem_cons.2 (.inr hy)))
  generalize kindsTo ss (allN ss) = L
  induction L with
  | nil => exact Nat.le_refl _
  | cons x l ih =>
    simp only [List.filter_cons]
    cases h : freeOf (insB bs b) x with
    | true => rw [hsub x h]; simpa using ih
    | false =>
      cases h2 : freeOf bs x with
      | true => simp; omega
      | false => simpa using ih
end Go.Proofs.Ytekggbmpogmlcaa

namespace Go.Proofs.Ytekggbmpogmlcaa
open Go.RowKit
set_option linter.unusedVariables false
set_option linter.unusedSimpArgs false
attribute [local go_sem] ExtOf.cell

theorem cellsI : Try.prog.cellsOf 3 = 1 := by kernel_rfl
theorem eqArr2 (x0 x1 : Int) (w : World) : (Op.equalIn 10000 58 (.agg #[.int .i64 x0, .int .i64 x1]) (.agg #[.int .i64 x0, .int .i64 x1])).run Try.prog w = .ok true w := by
  obtain ⟨i0, hi, hz0, hz1, hz2⟩ := info_parts intInfo
  rw [run_equalIn_array w 9999 _ _ Try.underlying58 hi, cellsI, show List.range 2 = [0, 1] from rfl]
  simp [go_sem, Op.eqItems, run_equalIn_int _ _ _ _ _ _ _ Try.underlying3]
theorem neqArr2 (x0 x1 : Int) (w : World) : (binOp .neq 58 (.agg #[.int .i64 x0, .int .i64 x1]) (.agg #[.int .i64 x0, .int .i64 x1])).run Try.prog w = .ok (.bool false) w := by
  rw [run_neq_struct, eqArr2]
  rfl
set_option maxHeartbeats 1000000 in
theorem vPairs_same (A A' : Option Addr) (n c c' : Nat) (l : List Int) (w : World) (hm : n ≤ 1048576) (hr : Rd w A n 2 (ints l)) (hr' : Rd w A' n 2 (ints l)) :
    Calls Try.prog 11 #[.slice A n c, .slice A' n c'] w fun e w' => e = .returned (.bool true) ∧ Ext w w' := by
  go_enter Try.func11, Try.ntmps11
  go_wp2
  go_loopw [5] (fun i wr => ∃ k : Nat, k ≤ n ∧ i = .int .i64 k ∧ Ext w wr) (fun i _ => n - (intOf i).toNat)
  case atStart => exact ⟨0, Nat.zero_le _, rfl, Ext.refl _⟩
  case round =>
    obtain ⟨k, hk, rfl, he⟩ := hrel
    by_cases hlt : k < n
    · obtain ⟨b, off, x0, x1, rfl, hb, hx, g0, g1⟩ := (hr.ext he).arr2 hlt
      obtain ⟨b', off', y0, y1, rfl, hb', hy, q0, q1⟩ := (hr'.ext he).arr2 hlt
      obtain ⟨h0, h1⟩ := hx.out
      obtain ⟨k0, k1⟩ := hy.out
      obtain rfl : x0 = y0 := by have := h0.symm.trans k0; injection this
      obtain rfl : x1 = y1 := by have := h1.symm.trans k1; injection this
      have hne := neqArr2 x0 x1
      clear h0 h1 k0 k1 hx hy hr hr'
      go_wp2
      (refine wp_region_ext_lit (by kernel_rfl) (by kernel_rfl) ?_; (repeat (go_big_quiet_step ((fail)))); refine wpQuiet_nil ?_; rintro wq ⟨⟨_, heq⟩, rfl⟩; (try dsimp only))
      go_wp2
      go_roundw
      case rel => exact ⟨k + 1, by omega, by go_num, he.trans heq⟩
      case measure => simp [intOf]; omega
    · obtain rfl : k = n := by omega
      go_wp2
      go_ret
      exact ⟨rfl, he⟩
set_option maxHeartbeats 1000000 in
theorem vBans_same (A A' : Option Addr) (n c c' : Nat) (xs : List Ban) (w : World) (hn : xs.length = n) (hm : n ≤ 1048576) (hr : Rd w A n 4 (xs.flatMap Ban.cs)) (hr' : Rd w A' n 4 (xs.flatMap Ban.cs)) :
    Calls Try.prog 40 #[.slice A n c, .slice A' n c'] w fun e w' => e = .returned (.bool true) ∧ Ext w w' := by
  have H := Lib.hid hn
  clear hn
  go_enter Try.func40, Try.ntmps40
  go_wp2
  go_loopw [5] (fun i wr => ∃ k : Nat, k ≤ n ∧ i = .int .i64 k ∧ Ext w wr) (fun i _ => n - (intOf i).toNat)
  case atStart => exact ⟨0, Nat.zero_le _, rfl, Ext.refl _⟩
  case round =>
    obtain ⟨k, hk, rfl, he⟩ := hrel
    by_cases hlt : k < n
    · obtain ⟨b, off, x, rfl, hb, hx, g0, g1, g2, g3⟩ := Ban.at_ (hr.ext he) H.out hlt
      obtain ⟨b', off', y, rfl, hb', hy, q0, q1, q2, q3⟩ := Ban.at_ (hr'.ext he) H.out hlt
      obtain rfl : x = y := by have := hx.out.symm.trans hy.out; injection this
      clear hr hr'
      go_wp2
      (refine wp_region_ext_lit (by kernel_rfl) (by kernel_rfl) ?_; (repeat (go_big_quiet_step ((fail)))); refine wpQuiet_nil ?_; rintro wq ⟨⟨_, heq⟩, rfl⟩; (try dsimp only))
      go_wp2
      go_roundw
      case rel => exact ⟨k + 1, by omega, by go_num, he.trans heq⟩
      case measure => simp [intOf]; omega
    · obtain rfl : k = n := by omega
      go_wp2
      go_ret
      exact ⟨rfl, he⟩
set_option maxRecDepth 100000 in
set_option maxHeartbeats 1000000 in
theorem vKindTable_same (A A' B B' : Option Addr) (n c c' m d d' : Nat) (ss : List Int) (bs : List Ban) (w : World) (hn : n ≤ 1048576) (hm : m ≤ 1048576) (hl : bs.length = m) (hr : Rd w A n 1 (ints ss)) (hr' : Rd w A' n 1 (ints ss)) (hb : Rd w B m 4 (bs.flatMap Ban.cs)) (hb' : Rd w B' m 4 (bs.flatMap Ban.cs)) :
    Calls Try.prog 19 #[.agg #[.slice A n c, .slice B m d], .agg #[.slice A' n c', .slice B' m d']] w fun e w' => e = .returned (.bool true) ∧ Ext w w' := by
  have C1 := Lib.hid (fun (wx : World) (hx : Ext w wx) => vInts_same A A' n c c' ss wx hn (hr.ext hx) (hr'.ext hx))
  have C2 := Lib.hid (fun (wx : World) (hx : Ext w wx) => vBans_same B B' m d d' bs wx hl hm (hb.ext hx) (hb'.ext hx))
  have by' := own_block (w.alloc (.cells #[.slice A n c, .slice B m d] 27)) 27 [.slice A' n c', .slice B' m d']
  simp only [World.size_alloc] at by'
  have BX := Lib.hid (((Ext.refl _).alloc (.cells #[.slice A' n c', .slice B' m d'] 27)).own (own_block w 27 [.slice A n c, .slice B m d]))
  have BY := Lib.hid by'
  clear hr hr' hb hb' hl by'
  go_enter Try.func19, Try.ntmps19
  go_wp2_with fail
  refine (C1.out _ (by repeat (first | exact Ext.refl _ | refine Ext.alloc ?_ _))).mono ?_
  rintro e w1 ⟨rfl, e1⟩
  have u1 := own_at (e1.own BX.out) (j := 1) rfl
  have v1 := own_at (e1.own BY.out) (j := 1) rfl
  have zv : w.heap.size + 1 < w1.heap.size := World.block_lt_of_cell? w1 _ v1
  have EB := Lib.hid ((((Ext.refl w).alloc (.cells #[.slice A n c, .slice B m d] 27)).alloc (.cells #[.slice A' n c', .slice B' m d'] 27)).trans e1)
  clear C1 BX BY e1
  go_wp2_with fail
  refine (C2.out _ EB.out).mono ?_
  rintro e w2 ⟨rfl, e2⟩
  go_wp2
  go_ret
  exact ⟨rfl, EB.out.trans e2⟩
end Go.Proofs.Ytekggbmpogmlcaa

namespace Go.Proofs.Ytekggbmpogmlcaa
open Go.RowKit
set_option linter.unusedVariables false
set_option linter.unusedSimpArgs false
attribute [local go_sem] ExtOf.cell

set_option maxRecDepth 100000 in
set_option maxHeartbeats 8000000 in
theorem FnBans_of (hS : ∀ (A : Option Addr) (n c : Nat) (B : Option Addr) (m d : Nat) (ss : List Int) (bs : List Ban) (b : Ban) (W : World) (base : Nat), DrawnT base A n c B m d ss bs W → BanSm b →
      Calls Try.prog 18 #[.agg #[.slice A n c, .slice B m d], .agg #[.int .i64 b.A, .int .i64 b.X, .int .i64 b.B, .int .i64 b.Y]] W (TabPost (okA ss bs b) ss (insB bs b) W))
    (A : Option Addr) (n c : Nat) (l : List Int) (w : World) (h : CodeOk w A n l) :
    Calls Try.prog 3 #[.slice A n c] w fun e w' => e = .returned (.bool true) ∧ Ext w w' := by
  have HC := Lib.hid h
  have hsm := h.small
  clear h
  by_cases hbig : 65536 < (n : Int)
  · have hd : decide (65536 < (n : Int)) = true := by simpa using hbig
    go_enter Try.func3, Try.ntmps3
    go_wp2_with (go_at_call 4; refine (vBig_any A n c w hsm).mono ?_; rintro e w' ⟨rfl, rfl⟩)
    go_ret
    exact ⟨rfl, Ext.refl _⟩
  have hd : decide (65536 < (n : Int)) = false := by simpa using hbig
  clear hbig
  go_enter Try.func3, Try.ntmps3
  go_wp2_with fail
  refine (vBig_any A n c w hsm).mono ?_
  rintro e w' ⟨rfl, rfl⟩
  go_wp2_with fail
  refine (DrawNeedlessBans_any A n c l _ HC.out).mono ?_
  rintro e w1 ⟨A1, n1, c1, B1, m1, d1, ss, bs, rfl, hT, e1⟩
  have BX := Lib.hid (own_block w1 27 [.slice A1 n1 c1, .slice B1 m1 d1])
  have EB := Lib.hid ((Ext.refl w1).alloc (.cells #[.slice A1 n1 c1, .slice B1 m1 d1] 27))
  have HTab := Lib.hid (fun (W : World) (he : Ext w1 W) => (hT.ext he).tab)
  have hmd := hT.caps.2
  have hn6 := hT.hn
  have hm6 := hT.hm
  have E1 := Lib.hid e1
  clear hT e1
  go_wp2_with fail
  refine (NeedlessBansI_any A1 n1 c1 B1 m1 d1 ss bs _ (HTab.out _ EB.out)).mono ?_
  rintro e w2 ⟨A2, m2, c2, rfl, o2, e2⟩
  have u0 := own_at (e2.own BX.out) (j := 0) rfl
  have u1 := own_at (e2.own BX.out) (j := 1) rfl
  have zu : w1.heap.size < w2.heap.size := World.block_lt_of_cell? w2 _ u0
  go_wp2_with fail
  refine (NeedlessBansS_any A1 n1 c1 B1 m1 d1 ss bs _ (HTab.out _ (EB.out.trans e2)) hmd).mono ?_
  rintro e w3 ⟨A3, m3, c3, rfl, o3, e3⟩
  clear u0 u1 zu
  have hl2 : (needR ss bs).length = m2 := by have := o2.1; rw [ints_length] at this; omega
  have hl3 : m3 = m2 := by have := o3.1; rw [ints_length] at this; omega
  subst hl3
  have hm20 : m3 ≤ 10000 := by rw [← hl2]; exact needR_len ss bs
  have O2 := Lib.hid (e3.own o2)
  have O3 := Lib.hid o3
  have E3 := Lib.hid (e2.trans e3)
  clear o2 o3 e2 e3 hl2
  generalize needR ss bs = nd at *
  generalize hok : TabOk ss bs = ok at *
  have HOK := Lib.hid hok
  clear hok
  go_wp2_with fail
  refine (vInts_same A2 A3 m3 c2 c3 nd _ (by omega) (Rd.own O2.out) (Rd.own O3.out)).mono ?_
  rintro e w4 ⟨rfl, e4⟩
  have E4 := Lib.hid (E3.out.trans e4)
  clear O2 O3 E3 e4
  have u0 := own_at (E4.out.own BX.out) (j := 0) rfl
  have u1 := own_at (E4.out.own BX.out) (j := 1) rfl
  have zu : w1.heap.size < w4.heap.size := World.block_lt_of_cell? w4 _ u0
  go_wp2_with fail
  refine (DeadValuesI_any A1 n1 c1 B1 m1 d1 ss bs _ (HTab.out _ (EB.out.trans E4.out))).mono ?_
  rintro e w5 ⟨A2, m2, c2, rfl, o2, e5⟩
  rw [HOK.out]
  clear u0 u1 zu
  have u0 := own_at ((E4.out.trans e5).own BX.out) (j := 0) rfl
  have u1 := own_at ((E4.out.trans e5).own BX.out) (j := 1) rfl
  have zu : w1.heap.size < w5.heap.size := World.block_lt_of_cell? w5 _ u0
  go_wp2_with fail
  refine (DeadValuesS_any A1 n1 c1 B1 m1 d1 ss bs _ (HTab.out _ (EB.out.trans (E4.out.trans e5)))).mono ?_
  rintro e w6 ⟨A3, m3, c3, rfl, o3, e6⟩
  rw [HOK.out]
  clear u0 u1 zu
  have hl2 : (deadR ss bs).length = m2 * 2 := by have := o2.1; rw [ints_length] at this; exact this
  have hl3 : m3 = m2 := by have := o3.1; rw [ints_length] at this; omega
  subst hl3
  have hm20 : m3 ≤ 10000 := by have := deadR_len ss bs; omega
  have O2 := Lib.hid (e6.own o2)
  have O3 := Lib.hid o3
  have E6 := Lib.hid (E4.out.trans (e5.trans e6))
  clear o2 o3 e5 e6 hl2 E4
  generalize deadR ss bs = dd at *
  go_wp2_with fail
  refine (vPairs_same A2 A3 m3 c2 c3 dd _ (by omega) (Rd.own O2.out) (Rd.own O3.out)).mono ?_
  rintro e w7 ⟨rfl, e7⟩
  have E7 := Lib.hid (E6.out.trans e7)
  clear O2 O3 E6 e7
  go_upto_if 82 with fail
  go_cut [12, 13, 14, 15, 16, 17] (fun s1 s2 s3 s4 s5 s6 W => Ext w7 W)
  case first =>
    have u0 := own_at (E7.out.own BX.out) (j := 0) rfl
    have u1 := own_at (E7.out.own BX.out) (j := 1) rfl
    have zu : w1.heap.size < w7.heap.size := World.block_lt_of_cell? w7 _ u0
    cases ok
    · go_wp2
      go_meet
      exact Ext.refl _
    · have hs0 := HOK.out
      obtain ⟨⟨t1, t2⟩, _, t4, _⟩ := TabOk_all hs0
      have hsl := (HTab.out _ (EB.out.trans E7.out)).sl
      obtain ⟨s0, hs0x⟩ : ∃ s0, ss[0]? = some s0 := ⟨_, List.getElem?_eq_getElem (by omega)⟩
      have hsz : sizeAt ss 0 = s0 := by unfold sizeAt; rw [show (0 : Int).toNat = 0 from rfl, hs0x]; rfl
      have hs5 := t4 s0 (List.mem_of_getElem? hs0x)
      obtain ⟨s0, rfl⟩ : ∃ q : Nat, s0 = q := ⟨s0.toNat, by omega⟩
      have HSZ := Lib.hid hsz
      have HX0 := Lib.hid hs0x
      have HYes := Lib.hid (fun (v : Nat) (hv : v < s0) => with_yes hs0 (v := v) (by rw [hsz]; omega))
      have HAll := Lib.hid (sum_all hs0 (n := s0) hsz.symm)
      have HBd := Lib.hid (fun (v : Nat) (hv : v ≤ s0) => sum_bd ss bs hs0 v (by rw [hsz]; omega))
      clear hs0 hsz hs0x t4
      go_wp2_with fail
      refine (CountCompatibleI_any A1 n1 c1 B1 m1 d1 ss bs _ (HTab.out _ (EB.out.trans E7.out))).mono ?_
      rintro e w8 ⟨rfl, e8⟩
      rw [HOK.out]
      clear u0 u1 zu
      have E8 := Lib.hid (E7.out.trans e8)
      go_wp2
      go_loopw [14, 15] (fun q i wr => ∃ v : Nat, v ≤ s0 ∧ i = .int .i64 v ∧ q = .int .i64 (sumTo ss bs v) ∧ Ext w8 wr) (fun _ i _ => s0 - (intOf i).toNat)
      case atStart => exact ⟨0, Nat.zero_le _, rfl, rfl, Ext.refl _⟩
      case round =>
        obtain ⟨v, hv, rfl, rfl, he⟩ := hrel
        have ER := Lib.hid (E8.out.trans he)
        have u0 := own_at (ER.out.own BX.out) (j := 0) rfl
        have u1 := own_at (ER.out.own BX.out) (j := 1) rfl
        have zu : w1.heap.size < wr.heap.size := World.block_lt_of_cell? wr _ u0
        obtain ⟨b0, off, x0, rfl, hb0, hx0, g0⟩ := (HTab.out _ (EB.out.trans ER.out)).sr.int (show 0 < n1 by omega)
        obtain rfl : ((s0 : Nat) : Int) = x0 := by have := HX0.out.symm.trans hx0.out; injection this
        simp only [Nat.add_zero] at g0
        have jz : (0 : Int) < (n1 : Int) := by omega
        have jz2 : 0 < n1 := by omega
        clear hx0
        by_cases hlt : v < s0
        · have hdv : decide ((v : Int) < (s0 : Int)) = true := by simp; omega
          have hb1 := HBd.out v hv
          have hb2 := HBd.out (v + 1) hlt
          obtain ⟨y1, y2⟩ := HYes.out v hlt
          have Y1 := Lib.hid y1
          rw [sumTo] at hb2
          clear y1 y2
          go_wp2_with fail
          refine (KindsWithI_any _ n1 c1 B1 m1 d1 ss bs 0 v _ (HTab.out _ (EB.out.trans ER.out))).mono ?_
          rintro e w9 ⟨rfl, e9⟩
          rw [Y1.out]
          clear u0 u1 zu g0
          have hsum : Hid (sumTo ss bs v + withR ss bs 0 v = sumTo ss bs (v + 1)) := rfl
          generalize withR ss bs 0 v = wv at *
          generalize sumTo ss bs v = sv at *
          go_wp2
          go_roundw
          case rel => exact ⟨v + 1, by omega, by go_num, by rw [← hsum.out], he.trans e9⟩
          case measure => simp [intOf]; omega
        · obtain rfl : v = s0 := by omega
          have hdv : decide ((v : Int) < (v : Int)) = false := by simp
          rw [HAll.out]
          go_wp2
          go_meet
          exact (show Ext w7 wr from e8.trans he)
  case rest =>
    have E9 := Lib.hid (E1.out.trans (EB.out.trans (E7.out.trans hcut)))
    clear E7 EB BX HTab HOK hcut hmd hn6 hm6
    go_wp2_with fail
    refine (DrawKindsWith_any A n c l _ (HC.out.ext E9.out)).mono ?_
    rintro e w1 ⟨A1, n1, c1, B1, m1, d1, ss, bs, tr, v, rfl, hT, e1⟩
    have BX := Lib.hid (own_block w1 27 [.slice A1 n1 c1, .slice B1 m1 d1])
    have EB := Lib.hid ((Ext.refl w1).alloc (.cells #[.slice A1 n1 c1, .slice B1 m1 d1] 27))
    have HTab := Lib.hid (fun (W : World) (he : Ext w1 W) => (hT.ext he).tab)
    have E1 := Lib.hid (E9.out.trans e1)
    clear hT e1 E9
    go_wp2_with fail
    refine (KindsWithI_any A1 n1 c1 B1 m1 d1 ss bs tr v _ (HTab.out _ EB.out)).mono ?_
    rintro e w2 ⟨rfl, e2⟩
    have u0 := own_at (e2.own BX.out) (j := 0) rfl
    have u1 := own_at (e2.own BX.out) (j := 1) rfl
    have zu : w1.heap.size < w2.heap.size := World.block_lt_of_cell? w2 _ u0
    go_wp2_with fail
    refine (KindsWithS_any A1 n1 c1 B1 m1 d1 ss bs tr v _ (HTab.out _ (EB.out.trans e2))).mono ?_
    rintro e w3 ⟨rfl, e3⟩
    clear u0 u1 zu
    have E3 := Lib.hid (E1.out.trans (EB.out.trans (e2.trans e3)))
    clear e2 e3 EB BX HTab E1
    generalize withR ss bs tr v = wr at *
    generalize askW ss bs tr v = aw at *
    go_wp2_with fail
    refine (DrawAddBan_any A n c l _ (HC.out.ext E3.out)).mono ?_
    rintro e w1 ⟨A1, n1, c1, B1, m1, d1, ss, bs, b, rfl, hb, hT, e1⟩
    have by' := own_block (w1.alloc (.cells #[.slice A1 n1 c1, .slice B1 m1 d1] 27)) 42 b.cs
    simp only [World.size_alloc] at by'
    have BX := Lib.hid (((Ext.refl _).alloc (.cells #[.int .i64 b.A, .int .i64 b.X, .int .i64 b.B, .int .i64 b.Y] 42)).own (own_block w1 27 [.slice A1 n1 c1, .slice B1 m1 d1]))
    have BB := Lib.hid by'
    have EB := Lib.hid (((Ext.refl w1).alloc (.cells #[.slice A1 n1 c1, .slice B1 m1 d1] 27)).alloc (.cells #[.int .i64 b.A, .int .i64 b.X, .int .i64 b.B, .int .i64 b.Y] 42))
    have HTD := Lib.hid (fun (W : World) (he : Ext w1 W) => hT.ext he)
    have HBS := Lib.hid hb
    have hml : bs.length = m1 := hT.tab.bl.len
    have hm6 := hT.hm
    have hn6 := hT.hn
    have E1 := Lib.hid (E3.out.trans (e1.trans EB.out))
    clear hT e1 E3 by' hb
    go_wp2_with fail
    refine (AddBanI_any A1 n1 c1 B1 m1 d1 ss bs b _ (HTD.out _ EB.out).tab HBS.out.wf).mono ?_
    rintro e w2 ⟨A2, n2, c2, B2, m2, d2, rfl, r2, q2, e2⟩
    have R2 := Lib.hid r2
    have Q2 := Lib.hid q2
    have BM := Lib.hid (own_block w2 27 [.slice A2 n2 c2, .slice B2 m2 d2])
    have EM := Lib.hid ((Ext.refl w2).alloc (.cells #[.slice A2 n2 c2, .slice B2 m2 d2] 27))
    clear r2 q2
    have y0 := own_at (e2.own BX.out) (j := 0) rfl
    have y1 := own_at (e2.own BX.out) (j := 1) rfl
    have z0 := own_at (e2.own BB.out) (j := 0) rfl
    have z1 := own_at (e2.own BB.out) (j := 1) rfl
    have z2 := own_at (e2.own BB.out) (j := 2) rfl
    have z3 := own_at (e2.own BB.out) (j := 3) rfl
    have zz : w1.heap.size + 1 < w2.heap.size := World.block_lt_of_cell? w2 _ z0
    have zy : w1.heap.size < w2.heap.size := by omega
    have E2 := Lib.hid (EB.out.trans (e2.trans EM.out))
    go_wp2_with fail
    refine (hS A1 n1 c1 B1 m1 d1 ss bs b _ _ (HTD.out _ E2.out) HBS.out).mono ?_
    rintro e w3 ⟨A3, n3, c3, B3, m3, d3, rfl, r3, q3, e3⟩
    clear y0 y1 z0 z1 z2 z3 zz zy
    have hn3 : n3 = n2 := by have h1 := R2.out.1; have h2 := r3.1; rw [ints_length] at h1 h2; omega
    have hm3 : m3 = m2 := by have h1 := Q2.out.1; have h2 := q3.1; rw [flat_length Ban.cs 4 Ban.len] at h1 h2; omega
    subst hn3; subst hm3
    have EW := Lib.hid ((Ext.refl w3).alloc (.cells #[.slice A3 n3 c3, .slice B3 m3 d3] 27))
    have R3 := Lib.hid (EW.out.own r3)
    have Q3 := Lib.hid (EW.out.own q3)
    have EMW := Lib.hid (EM.out.trans (e3.trans EW.out))
    have R2b := Lib.hid (EMW.out.own R2.out)
    have Q2b := Lib.hid (EMW.out.own Q2.out)
    have BW := Lib.hid (own_block w3 27 [.slice A3 n3 c3, .slice B3 m3 d3])
    have m0 := own_at (e3.own BM.out) (j := 0) rfl
    have m1' := own_at (e3.own BM.out) (j := 1) rfl
    have zm : w2.heap.size < w3.heap.size := World.block_lt_of_cell? w3 _ m0
    have ETY := Lib.hid (show Ext w1 (w3.alloc (.cells #[.slice A3 n3 c3, .slice B3 m3 d3] 27)) from E2.out.trans (e3.trans EW.out))
    have BXW := Lib.hid ((e2.trans EMW.out).own BX.out)
    have BMW := Lib.hid ((e3.trans EW.out).own BM.out)
    have EF := Lib.hid (E1.out.trans (e2.trans EMW.out))
    clear r3 q3 e2 e3 R2 Q2 BX BB BM EM EB E1 E2 EMW EW
    have hls : n3 = (if okA ss bs b = true then ss else []).length := by have h1 := R2b.out.1; rw [ints_length] at h1; omega
    have hlb : m3 = (if okA ss bs b = true then insB bs b else []).length := by have h1 := Q2b.out.1; rw [flat_length Ban.cs 4 Ban.len] at h1; omega
    have hssl : ss.length ≤ 6 := by have := (HTD.out _ (Ext.refl _)).tab.sl; omega
    have hn100 : n3 ≤ 1048576 := by
      split at hls
      · omega
      · simp at hls; omega
    have hm100 : m3 ≤ 1048576 := by
      split at hlb
      · rw [insB_len] at hlb; omega
      · simp at hlb; omega
    have HLS := Lib.hid hls
    have HLB := Lib.hid hlb
    clear hls hlb
    cases hok : okA ss bs b
    · have HOK := Lib.hid hok
      clear hok
      go_wp2_with fail
      refine (vKindTable_same A2 A3 B2 B3 n3 c2 c3 m3 d2 d3 _ _ _ hn100 hm100 HLB.out.symm (Rd.own R2b.out) (Rd.own R3.out) (Rd.own Q2b.out) (Rd.own Q3.out)).mono ?_
      rintro e w4 ⟨rfl, e4⟩
      go_wp2
      go_ret
      exact ⟨rfl, EF.out.trans e4⟩
    · have hok2 : TabOk ss bs = true ∧ TabOk ss (insB bs b) = true := by simpa [okA] using hok
      have HK1 := Lib.hid hok2.1
      have HK2 := Lib.hid hok2.2
      have HR := Lib.hid R2b.out
      have HQ := Lib.hid Q2b.out
      rw [hok, if_pos rfl] at HR HQ HLS HLB
      have hm9 : m3 = m1 + 1 := by have := HLB.out; rw [insB_len] at this; omega
      have HM9 := Lib.hid hm9
      have HT2 := Lib.hid (show TabL (w3.alloc (.cells #[.slice A3 n3 c3, .slice B3 m3 d3] 27)) A2 n3 B2 m3 ss (insB bs b) from ⟨HLS.out.symm, hn100, (HTD.out _ (Ext.refl _)).tab.sw, Rd.own HR.out, ⟨HLB.out.symm, hm100, fun z hz => by
        unfold insB at hz
        rcases List.mem_append.1 hz with hz | hz
        · exact (HTD.out _ (Ext.refl _)).tab.bl.wf z (List.mem_of_mem_take hz)
        · rcases List.mem_cons.1 hz with rfl | hz
          · exact HBS.out.wf
          · exact (HTD.out _ (Ext.refl _)).tab.bl.wf z (List.mem_of_mem_drop hz), Rd.own HQ.out⟩⟩)
      have hcnt : countR ss (insB bs b) ≤ countR ss bs := by rw [countR_yes hok2.1, countR_yes hok2.2]; have := frees_ins ss bs b; omega
      have HCnt := Lib.hid hcnt
      clear hok2 hcnt hm9
      go_wp2_with fail
      refine (vKindTable_same A2 A3 B2 B3 n3 c2 c3 m3 d2 d3 _ _ _ hn100 hm100 (by rw [hok, if_pos rfl]; exact HLB.out.symm) (Rd.own R2b.out) (Rd.own R3.out) (Rd.own Q2b.out) (Rd.own Q3.out)).mono ?_
      rintro e w4 ⟨rfl, e4⟩
      clear hok R2b Q2b R3 Q3 m0 m1' zm
      have u0 := own_at (e4.own BXW.out) (j := 0) rfl
      have u1 := own_at (e4.own BXW.out) (j := 1) rfl
      have zu : w1.heap.size < w4.heap.size := World.block_lt_of_cell? w4 _ u0
      go_wp2_with fail
      refine (CountCompatibleI_any A1 n1 c1 B1 m1 d1 ss bs _ (HTD.out _ (ETY.out.trans e4)).tab).mono ?_
      rintro e w5 ⟨rfl, e5⟩
      rw [HK1.out]
      clear u0 u1 zu
      have E45 := Lib.hid (e4.trans e5)
      clear e4 e5
      have x0 := own_at (E45.out.own BMW.out) (j := 0) rfl
      have x1 := own_at (E45.out.own BMW.out) (j := 1) rfl
      have zx : w2.heap.size < w5.heap.size := World.block_lt_of_cell? w5 _ x0
      go_wp2_with fail
      refine (CountCompatibleI_any A2 n3 c2 B2 m3 d2 ss (insB bs b) _ (HT2.out.ext E45.out)).mono ?_
      rintro e w6 ⟨rfl, e6⟩
      rw [HK2.out]
      clear x0 x1 zx
      have E46 := Lib.hid (E45.out.trans e6)
      have x0 := own_at (E46.out.own BMW.out) (j := 0) rfl
      have x1 := own_at (E46.out.own BMW.out) (j := 1) rfl
      have u0 := own_at (E46.out.own BXW.out) (j := 0) rfl
      have u1 := own_at (E46.out.own BXW.out) (j := 1) rfl
      have zx : w2.heap.size < w6.heap.size := World.block_lt_of_cell? w6 _ x0
      have zu : w1.heap.size < w6.heap.size := World.block_lt_of_cell? w6 _ u0
      have hc9 := HCnt.out
      generalize countR ss (insB bs b) = ca at *
      generalize countR ss bs = cb at *
      have hd8 : decide (cb < ca) = false := by simp; omega
      have hm9 : (m3 : Int) = (m1 : Int) + 1 := by have := HM9.out; omega
      have hd9 : ((m3 : Int) != (m1 : Int) + 1) = false := by simp; omega
      have EZ := Lib.hid (EF.out.trans E46.out)
      obtain rfl : m3 = m1 + 1 := HM9.out
      clear hm9 hc9
      go_wp2
      go_ret
      exact ⟨rfl, EZ.out⟩
end Go.Proofs.Ytekggbmpogmlcaa

namespace Go.Proofs.Ytekggbmpogmlcaa
open Go.RowKit
set_option linter.unusedVariables false
theorem AddBanS_of (hN : ∀ (aa : Addr) (n c : Nat) (ss : List Int) (b : Ban) (w : World), TabL w (some aa) n none 0 ss [] → b.Wf →
      Calls Try.prog 18 #[.agg #[.slice (some aa) n c, .slice none 0 0], .agg #[.int .i64 b.A, .int .i64 b.X, .int .i64 b.B, .int .i64 b.Y]] w (TabPost (okA ss [] b) ss (insB [] b) w))
    (A : Option Addr) (n c : Nat) (B : Option Addr) (m d : Nat) (ss : List Int) (bs : List Ban) (b : Ban) (W : World) (base : Nat) (h : DrawnT base A n c B m d ss bs W) (hb : BanSm b) :
    Calls Try.prog 18 #[.agg #[.slice A n c, .slice B m d], .agg #[.int .i64 b.A, .int .i64 b.X, .int .i64 b.B, .int .i64 b.Y]] W (TabPost (okA ss bs b) ss (insB bs b) W) := by
  have ht := h.tab
  have hcap := h.caps.2
  obtain ⟨qa, rfl⟩ := h.hA
  rcases h.hB with ⟨rfl, rfl⟩ | ⟨q, rfl⟩
  · have ho := h.rb.2
    rcases ho with ⟨hv, rfl⟩ | ⟨g, cap, cur, hv, _⟩
    · injection hv with _ _ hd
      subst hd
      exact hN _ n c ss b W ht hb.wf
    · injection hv with hv
      cases hv
  · exact AddBanS_any ⟨qa, 0, none⟩ n c q 0 m d ss bs b W ht hcap hb.wf
end Go.Proofs.Ytekggbmpogmlcaa

namespace Go.Proofs.Ytekggbmpogmlcaa
theorem FnBans_any (A : Option Addr) (n c : Nat) (l : List Int) (w : World) (h : CodeOk w A n l) :
    Calls Try.prog 3 #[.slice A n c] w fun e w' => e = .returned (.bool true) ∧ Ext w w' :=
  FnBans_of (AddBanS_of AddBanN_any) A n c l w h
end Go.Proofs.Ytekggbmpogmlcaa

namespace Go.Proofs.Ytekggbmpogmlcaa.fnBans
open Go.ChangeShapes Go.WideShapes Go.ChangeAt Go.RowKit
open Go.ChangeMaps (open_string shut_string)
set_option linter.unusedVariables false
set_option linter.unusedSimpArgs false
theorem own : ownKnob Try.prog.godebug = none := by kernel_rfl
theorem laidOut : laidOutB Try.prog = true := by kernel_rfl
set_option maxRecDepth 100000 in
theorem lifted (os : Os) (started : os.Started) (H : Type) (enc : TypeId × Value → H) :
    ReturnsInHanded {} Try.checked os 3 .any (Rows.fnBansSpec.pre6 enc Try.prog Try.f3 Rows.fnBansRow.domain false) (Rows.fnBansSpec.post enc Try.prog Try.f3 false true false false) := by
  refine returnsInHanded_of_change (C := Try.checked) own started (by kernel_rfl) Try.func3
    (ChangeSpec.witness6 (enc := enc) (C := Try.checked) false ⟨#[], #[.slice none 0 0], []⟩ 8 (by kernel_rfl) (by kernel_rfl) (by kernel_rfl) (by kernel_rfl)) ?_
  intro W base args ds gs before hval0 hW hcnd _
  have hval : ∀ (j : Nat) t v, Try.f3.params[j]? = some t → args[j]? = some v → Value.okWide Try.prog W .any base t v := hval0
  have hW' := hW
  obtain ⟨p, q, hA0, hV, rfl, hfz, hnd⟩ := hW
  have hA : DataW.TrodAll enc Try.prog W 0 (fun _ => true) true Try.f3.params.toList args.toList ds p := hA0
  rw [Try.params3] at hA hval
  obtain ⟨v0, vs0, d0, ds0, p0, q0, hargs, rfl, rfl, h0, r0⟩ := trodAll_cons hA
  obtain ⟨rfl, rfl, rfl⟩ := trodAll_nil r0
  obtain rfl : args = #[v0] := by cases args; simp_all
  obtain ⟨rfl, rfl⟩ := trodVars_none hV
  have lt0 : ∀ x ∈ p0, x.block < W.heap.size := by obtain ⟨m, hm⟩ := h0; exact DataW.trod_lt m _ _ _ hm
  have k0 := h0
  obtain ⟨A0, n0, c0, xs0, e0, hc0, hm0, hl0, w0, rd0⟩ := open_bytes (hval 0 22 v0 rfl rfl) h0
  subst e0
  clear hA0 hval0
  refine (FnBans_any A0 n0 c0 xs0 W (codeOk hc0 hm0 w0 rd0)).mono fun e W' ⟨he, bel⟩ => ?_
  subst he
  replace bel := Ext.below bel
  exact ⟨_, rfl, _, _, _, [], _, [], hW', trodAll_mk1 (shut_bool Try.underlying4 _), (trodAll_cons_mk (Below.trod laidOut (by kernel_rfl) (of_decide_eq_true (by kernel_rfl)) k0 bel lt0) trodAll_mk0), rfl, bel.frame _, fun h => by cases h⟩
theorem over : Rows.fnBansRow.holds Try.pinned (OpenSpec.ofChange Rows.fnBansSpec) :=
  OpenClaim.holds_of_wide 3 Try.f3 rfl rfl rfl rfl rfl rfl rfl ⟨rfl, rfl, rfl, rfl, rfl⟩ rfl rfl rfl rfl rfl (by kernel_rfl) Try.func3 (by kernel_rfl)
    (of_decide_eq_true (by kernel_rfl)) (by unfold Func.isWrapper; first | (rw [if_pos (by decide +kernel)]; kernel_rfl) | (rw [if_neg (by decide +kernel)]; exact ⟨rfl, rfl⟩))
    (fun os started H enc _ => lifted os started H enc)
theorem proved : Rows.FnBansSaid := over
#print axioms proved
end Go.Proofs.Ytekggbmpogmlcaa.fnBans

