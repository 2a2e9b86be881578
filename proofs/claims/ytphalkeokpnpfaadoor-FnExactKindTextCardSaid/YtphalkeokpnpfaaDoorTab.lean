/- Tables of kinds: opened, copied, compared. -/
import Derived.Test.YtphalkeokpnpfaaDoorOpenI
import Derived.Test.YtphalkeokpnpfaaDoorBanL
import Derived.Test.YtphalkeokpnpfaaDoorApp
import Derived.Test.YtphalkeokpnpfaaDoorStructs
namespace Go.Proofs.YtphalkeokpnpfaaDoor
open Go.ChangeShapes Go.WideShapes Go.RowKit Go.Deep
set_option linter.unusedVariables false
set_option linter.unusedSimpArgs false
attribute [local go_sem] ExtOf.cell
set_option maxRecDepth 100000

section
variable {H : Type} {enc : TypeId × Value → H} {P : Program} {w : World} {base : Nat} {spare : Nat → Bool} {held : Bool}
theorem trod_structs {t e : TypeId} {fs : Array Field} {fuel : Nat} {u : Value} {y : DataW H × List MemPlace} {α : Type} {f : α → List Value} {G : α → Prop}
    (ht : P.underlying t = some (.slice e)) (he : P.underlying e = some (.struct fs)) (hone : oneCellFields P fs = true) (hC : P.cellsOf e = fs.size) (hsz : 0 < fs.size) (hf : ∀ x, (f x).length = fs.size)
    (hG : ∀ us : List Value, us.length = fs.size → (∀ (j : Nat) (g : Field), fs[j]? = some g → ∃ u n y, us[j]? = some u ∧ DataW.trod enc P w base spare held n g.type [u] = some y) → ∃ x, us = f x ∧ G x)
    (hf' : DataW.trod enc P w base spare held fuel t [u] = some y) :
    ∃ (A : Option Addr) (n c : Nat) (xs : List α), u = .slice A n c ∧ n ≤ c ∧ c ≤ maxLen ∧ xs.length = n ∧ (∀ x ∈ xs, G x) ∧ Rd w A n fs.size (xs.flatMap f) := by
  rcases open_slice ht hf' with ⟨hcs, _⟩ | ⟨a, n, c, m, n', D, Pl, hcs, hb, hl, hm, hmm, hx, hi⟩
  · simp at hcs
    exact ⟨none, 0, 0, [], hcs, Nat.le_refl _, Nat.zero_le _, rfl, by simp, Rd.nil _ _ _⟩
  · simp at hcs
    obtain ⟨xs, h1, h2, h3⟩ := rd_of (w := w) (a := a) (n := n) (f := f) (G := G) hsz hf (fun i hi' => by
      obtain ⟨cs', hc, ht'⟩ := hi i (by rw [hmm]; split <;> omega)
      rw [hC] at hc
      obtain ⟨_, hcl, hat⟩ := World.cells?_some hc
      obtain ⟨ys, n2, _, _, _, hyl, hff⟩ := DataW.trod_struct he ht'
      obtain ⟨x, rfl, hg⟩ := hG cs' (by omega) (fun j g hj => by
        have hl : j < fs.size := (Array.getElem?_eq_some_iff.1 hj).1
        obtain ⟨o0, k0⟩ := hone_of hone j g hj
        have h1 := hff j g hj
        rw [o0, k0] at h1
        have hone' : (cs'.drop j).take 1 = [cs'[j]'(by omega)] := by
          rw [List.drop_eq_getElem_cons (by omega)]
          rfl
        rw [hone'] at h1
        have hxs : ys[j]? = some (ys[j]'(by omega)) := List.getElem?_eq_getElem (by omega)
        exact ⟨_, _, _, List.getElem?_eq_getElem (by omega), h1.trans hxs⟩)
      refine ⟨x, hg, fun j u hu => ?_⟩
      have hj : j < fs.size := by
        have := (List.getElem?_eq_some_iff.1 hu).1
        rw [hf] at this; exact this
      have := hat j hj
      rw [hu] at this
      rw [← Go.Deep.add_add]
      exact this)
    exact ⟨some a, n, c, xs, hcs, hl, hm, h1, h2, h3⟩
theorem open_KindTable {r : Reach} {b0 : Nat} {v : Value} {dd : DataW H} {p : List MemPlace} (hv : Value.okWide Tryd.prog w r b0 25 v) (h : DataW.Trod enc Tryd.prog w base spare held 25 v dd p) :
    ∃ (A : Option Addr) (n c : Nat) (ss : List Int) (B : Option Addr) (m d : Nat) (bs : List Ban), v = .agg #[.slice A n c, .slice B m d] ∧ (c ≤ maxLen ∧ n ≤ c ∧ ss.length = n ∧ (∀ x ∈ ss, (Lit.int .i64 x).wf = true) ∧ Rd w A n 1 (ints ss)) ∧ (d ≤ maxLen ∧ m ≤ d ∧ bs.length = m ∧ (∀ x ∈ bs, x.Wf) ∧ Rd w B m 4 (bs.flatMap Ban.cs)) := by
  obtain ⟨cs, rfl, hl, hf⟩ := open_fields Tryd.underlying25 (by kernel_rfl) (by kernel_rfl) hv h
  match cs, hl with
  | [c0, c1], _ =>
    obtain ⟨u0, n0, y0, e0, t0⟩ := hf 0 _ rfl
    simp at e0; subst e0
    obtain ⟨A, n, c, ss, rfl, h1, h2, h3, h4, h5⟩ := trod_ints Tryd.underlying22 Tryd.underlying3 (by kernel_rfl) t0
    obtain ⟨u1, n1, y1, e1, t1⟩ := hf 1 _ rfl
    simp at e1; subst e1
    obtain ⟨B, m, d, bs, rfl, k1, k2, k3, k4, k5⟩ := trod_structs Tryd.underlying23 Tryd.underlying72 (by kernel_rfl) (by kernel_rfl) (by decide) Ban.len (fun us hl hf => take_Ban hl hf) t1
    exact ⟨A, n, c, ss, B, m, d, bs, rfl, ⟨h2, h1, h3, h4, h5⟩, ⟨k2, k1, k3, k4, k5⟩⟩
end
/-- A table in memory. -/
structure TabL (w : World) (A : Option Addr) (n : Nat) (B : Option Addr) (m : Nat) (ss : List Int) (bs : List Ban) : Prop where
  sl : ss.length = n
  sm : n ≤ 1048576
  sw : ∀ x ∈ ss, (Lit.int .i64 x).wf = true
  sr : Rd w A n 1 (ints ss)
  bl : BanL w B m bs
theorem TabL.ext {w w' : World} {A : Option Addr} {n : Nat} {B : Option Addr} {m : Nat} {ss : List Int} {bs : List Ban} (h : TabL w A n B m ss bs) (he : Ext w w') : TabL w' A n B m ss bs := ⟨h.sl, h.sm, h.sw, h.sr.ext he, h.bl.ext he⟩

set_option maxHeartbeats 400000 in
theorem szIntS_any (A : Option Addr) (n c : Nat) (left : Int) (w : World) (h1 : 0 ≤ left) (h2 : left ≤ 1048576) (hm : n ≤ maxLen) :
    Calls Tryd.prog 26 #[.slice A n c, .int .i64 left] w (SzPost left n w) := by
  unfold maxLen at hm
  by_cases h0 : left - n < 0
  · go_enter Tryd.func26, Tryd.ntmps26
    go_wp2
    go_ret
    exact ⟨-1, rfl, by omega, by omega, by omega, Ext.refl _⟩
  · go_enter Tryd.func26, Tryd.ntmps26
    go_wp2
    go_ret
    exact ⟨left - n, rfl, by omega, by omega, by omega, Ext.refl _⟩
/-- The budget for a table. -/
def SzTab (left : Int) (n m : Nat) (w : World) (e : Ending) (w' : World) : Prop := ∃ r : Int, e = .returned (.int .i64 r) ∧ -1 ≤ r ∧ r ≤ left ∧ (0 ≤ r → (n : Int) ≤ left ∧ (m : Int) ≤ left) ∧ Ext w w'
set_option maxHeartbeats 1000000 in
theorem szKindTable_any (A : Option Addr) (n c : Nat) (B : Option Addr) (m d : Nat) (ss : List Int) (bs : List Ban) (left : Int) (w : World) (h1 : 0 ≤ left) (h2 : left ≤ 1048576) (hn : n ≤ maxLen) (hm : m ≤ maxLen) (hb : bs.length = m) (hw : ∀ x ∈ bs, x.Wf) (hr : Rd w B m 4 (bs.flatMap Ban.cs)) :
    Calls Tryd.prog 5 #[.agg #[.slice A n c, .slice B m d], .int .i64 left] w (SzTab left n m w) := by
  have HB := Lib.hid hb
  have HW := Lib.hid hw
  have HR := Lib.hid hr
  clear hb hw hr
  go_enter Tryd.func5, Tryd.ntmps5
  go_wp2_with fail
  refine (szIntS_any A n c left _ h1 h2 hn).mono ?_
  rintro e w1 ⟨r, rfl, r1, r2, r3, e1⟩
  by_cases hr0 : r < 0
  · go_wp2
    go_ret
    exact ⟨-1, rfl, by omega, by omega, by omega, (by repeat (first | exact Ext.refl _ | assumption | refine Ext.trans ?_ (by assumption) | refine Ext.drew ?_ | refine Ext.drewN ?_ _ | refine Ext.alloc ?_ _))⟩
  · have d0 : decide (r < 0) = false := by simp; omega
    have p0 : w1.cell? ⟨w.heap.size, 0, none⟩ = some (.slice A n c) := e1.cell1 (new_cell _ _ _ 0 _ rfl)
    have p1 : w1.cell? ⟨w.heap.size, 1, none⟩ = some (.slice B m d) := e1.cell1 (new_cell _ _ _ 1 _ rfl)
    have hrl := r3 (by omega)
    go_wp2_with fail
    refine (szBanS_any B m d bs r _ (by omega) (by omega) HB.out hm HW.out (HR.out.ext (by repeat (first | exact Ext.refl _ | assumption | refine Ext.trans ?_ (by assumption) | refine Ext.drew ?_ | refine Ext.drewN ?_ _ | refine Ext.alloc ?_ _)))).mono ?_
    rintro e w2 ⟨s, rfl, s1, s2, s3, e2⟩
    by_cases hs0 : s < 0
    · go_wp2
      go_ret
      exact ⟨-1, rfl, by omega, by omega, by omega, (by repeat (first | exact Ext.refl _ | assumption | refine Ext.trans ?_ (by assumption) | refine Ext.drew ?_ | refine Ext.drewN ?_ _ | refine Ext.alloc ?_ _))⟩
    · go_wp2
      go_ret
      exact ⟨s, rfl, by omega, by omega, fun _ => ⟨hrl, by have := s3 (by omega); omega⟩, (by repeat (first | exact Ext.refl _ | assumption | refine Ext.trans ?_ (by assumption) | refine Ext.drew ?_ | refine Ext.drewN ?_ _ | refine Ext.alloc ?_ _))⟩

theorem own_low' {w : World} {b b' T size n : Nat} {v : Value} {cs : List Value} (h : w.ownsRow b T size v n cs) (hb : b' ≤ b) : w.ownsRow b' T size v n cs := by
  refine ⟨h.1, ?_⟩
  rcases h.2 with h2 | ⟨g, cap, cur, h1, h2, h3⟩
  · exact .inl h2
  · exact .inr ⟨g, cap, cur, h1, Nat.le_trans hb h2, h3⟩
theorem own_block (w : World) (T : TypeId) (cs : List Value) : (w.alloc (.cells cs.toArray T)).ownsRow w.heap.size T cs.length (.slice (some ⟨w.heap.size, 0, none⟩) 1 1) 1 cs :=
  ⟨by simp, .inr ⟨w.heap.size, 1, cs.toArray, rfl, Nat.le_refl _, heap_alloc_new w _, Nat.le_refl _, by unfold maxLen; omega, by simp, by simp⟩⟩
theorem own_at {w : World} {base T size n g c : Nat} {cs : List Value} (h : w.ownsRow base T size (.slice (some ⟨g, 0, none⟩) n c) n cs) {j : Nat} {v : Value} (hj : cs[j]? = some v) : w.cell? ⟨g, j, none⟩ = some v := by
  have hl := (List.getElem?_eq_some_iff.1 hj).1
  rw [h.cellAt j (by have := h.1; omega)]
  exact hj
/-- A new table. -/
def NewTab (n m : Nat) (ss : List Int) (bs : List Ban) (w : World) (e : Ending) (w' : World) : Prop := ∃ g1 g2 : Nat, w.heap.size ≤ g1 ∧ g1 < g2 ∧ e = .returned (.agg #[.slice (some ⟨g1, 0, none⟩) n n, .slice (some ⟨g2, 0, none⟩) m m]) ∧
  w'.ownsRow w.heap.size 3 1 (.slice (some ⟨g1, 0, none⟩) n n) n (ints ss) ∧ w'.ownsRow w.heap.size 69 4 (.slice (some ⟨g2, 0, none⟩) m m) m (bs.flatMap Ban.cs) ∧ Ext w w'
theorem NewTab.tab {n m : Nat} {ss : List Int} {bs : List Ban} {w : World} {e : Ending} {w' w0 : World} {A : Option Addr} {B : Option Addr} (h0 : TabL w0 A n B m ss bs) {g1 g2 : Nat}
    (h1 : w'.ownsRow w.heap.size 3 1 (.slice (some ⟨g1, 0, none⟩) n n) n (ints ss)) (h2 : w'.ownsRow w.heap.size 69 4 (.slice (some ⟨g2, 0, none⟩) m m) m (bs.flatMap Ban.cs)) :
    TabL w' (some ⟨g1, 0, none⟩) n (some ⟨g2, 0, none⟩) m ss bs := ⟨h0.sl, h0.sm, h0.sw, Rd.own h1, ⟨h0.bl.len, h0.bl.small, h0.bl.wf, Rd.own h2⟩⟩
set_option maxHeartbeats 1000000 in
theorem toKindTable_any (A : Option Addr) (n c : Nat) (B : Option Addr) (m d : Nat) (ss : List Int) (bs : List Ban) (w : World) (h : TabL w A n B m ss bs) :
    Calls Tryd.prog 7 #[.agg #[.slice A n c, .slice B m d]] w (NewTab n m ss bs w) := by
  have hn := h.sm
  have hm := h.bl.small
  have h2 := own_block ((w.alloc (.cells #[.slice A n c, .slice B m d] 25)).alloc (.cells #[.slice none 0 0, .slice none 0 0] 31)) 31 [.slice none 0 0, .slice none 0 0]
  have h3 := (own_block (w.alloc (.cells #[.slice A n c, .slice B m d] 25)) 31 [.slice none 0 0, .slice none 0 0]).alloc (.cells #[.slice none 0 0, .slice none 0 0] 31)
  simp only [World.size_alloc] at h2 h3
  have HO := Lib.hid h2
  have HR := Lib.hid h3
  clear h2 h3
  go_enter Tryd.func7, Tryd.ntmps7
  go_wp2_with fail
  refine (toIntS_any A n c ss _ hn (h.sr.ext (by repeat (first | exact Ext.refl _ | assumption | refine Ext.trans ?_ (by assumption) | refine Ext.drew ?_ | refine Ext.drewN ?_ _ | refine Ext.alloc ?_ _)))).mono ?_
  rintro e w1 ⟨rfl, o1, e1⟩
  simp only [World.size_alloc] at o1
  have O1 := Lib.hid (e1.own HO.out)
  have R1 := Lib.hid (e1.own HR.out)
  have I1 := Lib.hid o1
  clear o1
  have hz1 : w.heap.size + 1 + 1 < w1.heap.size := (O1.out.lt _ rfl).2
  have p1 : w1.cell? ⟨w.heap.size, 1, none⟩ = some (.slice B m d) := e1.cell1 (by simp [go_sem, World.cell?_alloc_past])
  have c0 := own_at O1.out (j := 0) rfl
  have f0 := O1.out.frozenAt 0
  go_wp2_with fail
  have hst := O1.out.stored 0 (.slice (some ⟨w.heap.size + 1 + 1 + 1, 0, none⟩) n n)
  have O2 := Lib.hid hst.1
  have R2 := Lib.hid (R1.out.kept hst.2 (Off.ne (o := 0) (by omega)).row)
  have I2 := Lib.hid (I1.out.kept hst.2 (Off.ne (o := 0) (by omega)).row)
  have E1 := Lib.hid (((((Ext.refl w).alloc (.cells #[.slice A n c, .slice B m d] 25)).alloc (.cells #[.slice none 0 0, .slice none 0 0] 31)).alloc (.cells #[.slice none 0 0, .slice none 0 0] 31)).trans e1)
  have E2 := Lib.hid (E1.out.set (p := ⟨w.heap.size + 1 + 1, 0, none⟩) (by show w.heap.size ≤ w.heap.size + 1 + 1; omega) (.slice (some ⟨w.heap.size + 1 + 1 + 1, 0, none⟩) n n))
  clear hst c0 f0 p1
  refine (toBanS_any B m d bs _ h.bl.len hm (h.bl.rd.ext E2.out)).mono ?_
  rintro e w2 ⟨rfl, o2, e2⟩
  simp only [World.size_setCell] at o2
  have O3 := Lib.hid (e2.own O2.out)
  have R3 := Lib.hid (e2.own R2.out)
  have I3 := Lib.hid (e2.own I2.out)
  have B3 := Lib.hid o2
  clear o2
  have hz2 : w.heap.size + 1 + 1 < w2.heap.size := (O3.out.lt _ rfl).2
  have c0 := own_at O3.out (j := 0) rfl
  have c1 := own_at O3.out (j := 1) rfl
  have f1 := O3.out.frozenAt 1
  have r0 := own_at R3.out (j := 0) rfl
  have r1 := own_at R3.out (j := 1) rfl
  have s0 := R3.out.frozenAt 0
  have s1 := R3.out.frozenAt 1
  go_wp2
  have hz3 : w.heap.size + 1 + 1 + 1 < w1.heap.size := (I1.out.lt _ rfl).2
  have k1 := O3.out.stored 1 (.slice (some ⟨w1.heap.size, 0, none⟩) m m)
  have R4 := R3.out.kept k1.2 (Off.ne (o := 0) (by omega)).row
  have I4 := I3.out.kept k1.2 (Off.ne (o := 0) (by omega)).row
  have B4 := B3.out.kept k1.2 (Off.ne (o := 0) (by omega)).row
  have k2 := R4.stored 0 (.slice (some ⟨w.heap.size + 1 + 1 + 1, 0, none⟩) n n)
  have I5 := I4.kept k2.2 (Off.ne (o := 0) (by omega)).row
  have B5 := B4.kept k2.2 (Off.ne (o := 0) (by omega)).row
  have k3 := k2.1.stored 1 (.slice (some ⟨w1.heap.size, 0, none⟩) m m)
  have I6 := I5.kept k3.2 (Off.ne (o := 0) (by omega)).row
  have B6 := B5.kept k3.2 (Off.ne (o := 0) (by omega)).row
  have E3 := ((((E2.out.trans e2).set (p := ⟨w.heap.size + 1 + 1, 1, none⟩) (by show w.heap.size ≤ w.heap.size + 1 + 1; omega) (.slice (some ⟨w1.heap.size, 0, none⟩) m m)).set (p := ⟨w.heap.size + 1, 0, none⟩) (by show w.heap.size ≤ w.heap.size + 1; omega) (.slice (some ⟨w.heap.size + 1 + 1 + 1, 0, none⟩) n n)).set (p := ⟨w.heap.size + 1, 1, none⟩) (by show w.heap.size ≤ w.heap.size + 1; omega) (.slice (some ⟨w1.heap.size, 0, none⟩) m m))
  have r5 := own_at k3.1 (j := 0) rfl
  have r6 := own_at k3.1 (j := 1) rfl
  exact bodyPost_ret (v := .agg #[.slice (some ⟨w.heap.size + 1 + 1 + 1, 0, none⟩) n n, .slice (some ⟨w1.heap.size, 0, none⟩) m m]) (by simp [results, Tryd.results7, go_sem, r5, r6]) rfl ⟨_, _, by omega, by omega, rfl, own_low' I6 (by omega), own_low' B6 (by omega), E3⟩

set_option maxHeartbeats 1000000 in
theorem eqKindTable_same (A A' : Option Addr) (n c c' : Nat) (B B' : Option Addr) (m d d' : Nat) (ss : List Int) (bs : List Ban) (w : World) (h : TabL w A n B m ss bs) (h' : TabL w A' n B' m ss bs) :
    Calls Tryd.prog 10 #[.agg #[.slice A n c, .slice B m d], .agg #[.slice A' n c', .slice B' m d']] w fun e w' => e = .returned (.bool true) ∧ Ext w w' := by
  have hn := h.sm
  have hm := h.bl.small
  go_enter Tryd.func10, Tryd.ntmps10
  go_wp2_with fail
  refine (eqIntS_same _ _ _ _ _ ss _ hn (h.sr.ext (by repeat (first | exact Ext.refl _ | assumption | refine Ext.trans ?_ (by assumption) | refine Ext.drew ?_ | refine Ext.drewN ?_ _ | refine Ext.alloc ?_ _))) (h'.sr.ext (by repeat (first | exact Ext.refl _ | assumption | refine Ext.trans ?_ (by assumption) | refine Ext.drew ?_ | refine Ext.drewN ?_ _ | refine Ext.alloc ?_ _)))).mono ?_
  rintro e w1 ⟨rfl, e1⟩
  have p1 : w1.cell? ⟨w.heap.size, 1, none⟩ = some (.slice B m d) := e1.cell1 (by simp [go_sem, World.cell?_alloc_past])
  have q1 : w1.cell? ⟨w.heap.size + 1, 1, none⟩ = some (.slice B' m d') := e1.cell1 (by simp [go_sem, World.cell?_alloc_past])
  go_wp2_with fail
  refine (eqBanS_same _ _ _ _ _ bs _ h.bl.len hm (h.bl.rd.ext (by repeat (first | exact Ext.refl _ | assumption | refine Ext.trans ?_ (by assumption) | refine Ext.drew ?_ | refine Ext.drewN ?_ _ | refine Ext.alloc ?_ _))) (h'.bl.rd.ext (by repeat (first | exact Ext.refl _ | assumption | refine Ext.trans ?_ (by assumption) | refine Ext.drew ?_ | refine Ext.drewN ?_ _ | refine Ext.alloc ?_ _)))).mono ?_
  rintro e w2 ⟨rfl, e2⟩
  go_wp2
  go_ret
  exact ⟨rfl, (by repeat (first | exact Ext.refl _ | assumption | refine Ext.trans ?_ (by assumption) | refine Ext.drew ?_ | refine Ext.drewN ?_ _ | refine Ext.alloc ?_ _))⟩
end Go.Proofs.YtphalkeokpnpfaaDoor
