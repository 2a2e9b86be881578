/- The draw of one mail (made by wip/drawmail1.py). -/
import Derived.Test.YtmgpdenofkloeaaDoorCur
import Derived.Test.YtmgpdenofkloeaaDoorMailX
import Derived.Test.YtmgpdenofkloeaaDoorStructs
namespace Go.Proofs.YtmgpdenofkloeaaDoor
open Go.RowKit
set_option linter.unusedVariables false
set_option linter.unusedSimpArgs false
attribute [local go_sem] ExtOf.cell

def smallI (a : Int) : Prop := -100000 ≤ a ∧ a ≤ 100000
theorem smI (a : Int) (h1 : -100000 ≤ a) (h2 : a ≤ 100000) : smallI a := ⟨h1, h2⟩
theorem wf_i64 {a : Int} (h : smallI a) : (Lit.int .i64 a).wf = true := by
  have e1 : IntKind.i64.min = -9223372036854775808 := rfl
  have e2 : IntKind.i64.max = 9223372036854775807 := rfl
  unfold smallI at h
  simp [Lit.wf, e1, e2]; omega
def MailSm (r : Mail) : Prop := smallI r.Leave ∧ smallI r.From ∧ smallI r.To ∧ smallI r.Arrive
theorem MailSm.wf {r : Mail} (h : MailSm r) : r.Wf := ⟨wf_i64 h.1, wf_i64 h.2.1, wf_i64 h.2.2.1, wf_i64 h.2.2.2⟩
def MailIn (v : Value) (w : World) : Prop := ∃ r : Mail, v = .agg #[.int .i64 r.Leave, .int .i64 r.From, .int .i64 r.To, .int .i64 r.Arrive] ∧ MailSm r
theorem mail_size : Tryd.prog.cellsOf 36 = 4 := by kernel_rfl
set_option maxRecDepth 100000 in
set_option maxHeartbeats 4000000 in
theorem mail_any (g b : Nat) (w : World) (h : Cur w g b) (hb : b ≤ 1000000) :
    Calls Tryd.prog 32 #[.pointer (some ⟨g, 0, none⟩)] w (CurPost g (b + 12) w MailIn) := by
  have hgw := h.lt
  have oz := own_block w 36 [.int .i64 0, .int .i64 0, .int .i64 0, .int .i64 0]
  have OZ := Lib.hid oz
  clear oz
  go_enter Tryd.func32, Tryd.ntmps32
  go_wp2_with fail
  refine (among_at g b _ [0, 5, 10, 10, 20, 30, 45, 60] 0 60 _ _ (h.ext ((Ext.refl _).alloc _)) (by simp) (by decide) (by omega) (by decide) (by decide)).mono ?_
  rintro e w1 ⟨v, rfl, ⟨l, rfl, l1, l2⟩, C1, G1⟩
  go_wp2_with fail
  refine (pick_any g (b + 2) 4 _ C1 (by omega) (by omega)).mono ?_
  rintro e w2 ⟨v, rfl, ⟨f, rfl, f0, f1⟩, C2, G2⟩
  go_wp2_with fail
  refine (pick_any g (b + 4) 4 _ C2 (by omega) (by omega)).mono ?_
  rintro e w3 ⟨v, rfl, ⟨t, rfl, t0, t1⟩, C3, G3⟩
  go_wp2_with fail
  refine (among_at g (b + 6) _ [1, 5, 10, 10, 25] 1 25 _ _ C3 rfl (by decide) (by omega) (by decide) (by decide)).mono ?_
  rintro e w4 ⟨v, rfl, ⟨a, rfl, a1, a2⟩, C4, G4⟩
  have hf : f ≤ 4 := by omega
  have ht : t ≤ 4 := by omega
  go_wp2_with fail
  have E0 := (Ext.refl w4).alloc (.cells #[.int .i64 l, .int .i64 f, .int .i64 t, .int .i64 (l + a)] 36)
  refine (pick_any g (b + 8) 48 _ (C4.ext E0) (by omega) (by omega)).mono ?_
  rintro e w5 ⟨v, rfl, ⟨r, rfl, r0, r1⟩, C5, G5⟩
  have hne1 : w.heap.size ≠ g := by omega
  have hw4 : w.heap.size < w4.heap.size := by have := G1.size; have := G2.size; have := G3.size; have := G4.size; simp at *; omega
  have G14 := grown_trans (grown_of_ext (g := some g) ((Ext.refl w).alloc (.cells #[.int .i64 0, .int .i64 0, .int .i64 0, .int .i64 0] 36))) (grown_trans G1 (grown_trans G2 (grown_trans G3 G4)))
  have GZ := Lib.hid (grown_trans G14 (grown_trans (grown_of_ext (g := some g) E0) G5))
  have nz : Value.ownBlock (.slice (some ⟨w.heap.size, 0, none⟩) 1 1) = none ∨ Value.ownBlock (.slice (some ⟨w.heap.size, 0, none⟩) 1 1) ≠ some g := Or.inr (by simp [Value.ownBlock]; omega)
  have nb : Value.ownBlock (.slice (some ⟨w4.heap.size, 0, none⟩) 1 1) = none ∨ Value.ownBlock (.slice (some ⟨w4.heap.size, 0, none⟩) 1 1) ≠ some g := Or.inr (by simp [Value.ownBlock]; omega)
  have OZ3 := Lib.hid ((E0.own ((((OZ.out.kept G1 nz).kept G2 nz).kept G3 nz).kept G4 nz)).kept G5 nz)
  have BX := Lib.hid ((own_block w4 36 [.int .i64 l, .int .i64 f, .int .i64 t, .int .i64 (l + a)]).kept G5 nb)
  have x0 := own_at BX.out (j := 0) rfl
  have x1 := own_at BX.out (j := 1) rfl
  have x2 := own_at BX.out (j := 2) rfl
  have x3 := own_at BX.out (j := 3) rfl
  have z3 : w4.heap.size < w5.heap.size := World.block_lt_of_cell? w5 _ x0
  clear OZ E0 G14 G1 G2 G3 G4
  by_cases e0 : r = 0
  · subst e0
    go_wp2_with fail
    refine (among_at g (b + 10) _ [-1, 9, 10] (-1) 10 _ _ C5 rfl (by decide) (by omega) (by simp) (by simp)).mono ?_
    rintro e w6 ⟨v, rfl, ⟨u, rfl, v1, v2⟩, C6, G6⟩
    have OZ4 := Lib.hid (OZ3.out.kept G6 nz)
    have BX4 := Lib.hid (BX.out.kept G6 nb)
    clear x0 x1 x2 x3
    have x0 := own_at BX4.out (j := 0) rfl
    have x1 := own_at BX4.out (j := 1) rfl
    have x2 := own_at BX4.out (j := 2) rfl
    have x3 := own_at BX4.out (j := 3) rfl
    have f3 := BX4.out.frozenAt 2
    have z4 : w4.heap.size < w6.heap.size := World.block_lt_of_cell? w6 _ x0
    have s4 := BX4.out.stored 2 (.int .i64 u)
    have OZ5 := Lib.hid (OZ4.out.kept s4.2 (Or.inr (by simp [Value.ownBlock]; omega)))
    have C7 := Lib.hid (C6.kept s4.2 (fun q hq => by injection hq with hq; omega))
    have G7 := Lib.hid (grown_new (grown_trans GZ.out G6) s4.2 (fun q hq => by injection hq with hq; omega))
    clear s4 G6
    go_wp2_with (refine wpList_store_own rfl 36 (.tmp 2) (.tmp 35) rfl w.heap.size 0 [.int .i64 (l), .int .i64 (f), .int .i64 (u), .int .i64 (l + a)] rfl rfl w.heap.size 36 4 1 1 _ OZ5.out (by simp) sizeMail rfl ?_; intro w9 ho9 hg9)
    have q0 := own_at ho9 (j := 0) rfl
    have q1 := own_at ho9 (j := 1) rfl
    have q2 := own_at ho9 (j := 2) rfl
    have q3 := own_at ho9 (j := 3) rfl
    exact bodyPost_ret (v := .agg #[.int .i64 (l), .int .i64 (f), .int .i64 (u), .int .i64 (l + a)]) (by simp [results, Tryd.results32, go_sem, q0, q1, q2, q3]) rfl ⟨_, rfl, ⟨⟨l, f, u, l + a⟩, rfl, ⟨smI (l) (by omega) (by omega), smI (f) (by omega) (by omega), smI (u) (by omega) (by omega), smI (l + a) (by omega) (by omega)⟩⟩, (C7.out.kept hg9 (fun q hq => by injection hq with hq; omega)).mono (by omega), grown_new G7.out hg9 (fun q hq => by injection hq with hq; omega)⟩
  · have d0 : (r == 0) = false := by simpa using e0
    have d0' : decide (r = 0) = false := by simpa using e0
    by_cases e1 : r = 1
    · subst e1
      go_wp2_with fail
      refine (among_at g (b + 10) _ [l, 9999, 10000] 0 20000 _ _ C5 rfl (by intro x hx; simp at hx; omega) (by omega) (by simp) (by simp)).mono ?_
      rintro e w6 ⟨v, rfl, ⟨u, rfl, v1, v2⟩, C6, G6⟩
      have OZ4 := Lib.hid (OZ3.out.kept G6 nz)
      have BX4 := Lib.hid (BX.out.kept G6 nb)
      clear x0 x1 x2 x3
      have x0 := own_at BX4.out (j := 0) rfl
      have x1 := own_at BX4.out (j := 1) rfl
      have x2 := own_at BX4.out (j := 2) rfl
      have x3 := own_at BX4.out (j := 3) rfl
      have f3 := BX4.out.frozenAt 3
      have z4 : w4.heap.size < w6.heap.size := World.block_lt_of_cell? w6 _ x0
      have s4 := BX4.out.stored 3 (.int .i64 u)
      have OZ5 := Lib.hid (OZ4.out.kept s4.2 (Or.inr (by simp [Value.ownBlock]; omega)))
      have C7 := Lib.hid (C6.kept s4.2 (fun q hq => by injection hq with hq; omega))
      have G7 := Lib.hid (grown_new (grown_trans GZ.out G6) s4.2 (fun q hq => by injection hq with hq; omega))
      clear s4 G6
      go_wp2_with (refine wpList_store_own rfl 36 (.tmp 2) (.tmp 35) rfl w.heap.size 0 [.int .i64 (l), .int .i64 (f), .int .i64 (t), .int .i64 (u)] rfl rfl w.heap.size 36 4 1 1 _ OZ5.out (by simp) sizeMail rfl ?_; intro w9 ho9 hg9)
      have q0 := own_at ho9 (j := 0) rfl
      have q1 := own_at ho9 (j := 1) rfl
      have q2 := own_at ho9 (j := 2) rfl
      have q3 := own_at ho9 (j := 3) rfl
      exact bodyPost_ret (v := .agg #[.int .i64 (l), .int .i64 (f), .int .i64 (t), .int .i64 (u)]) (by simp [results, Tryd.results32, go_sem, q0, q1, q2, q3]) rfl ⟨_, rfl, ⟨⟨l, f, t, u⟩, rfl, ⟨smI (l) (by omega) (by omega), smI (f) (by omega) (by omega), smI (t) (by omega) (by omega), smI (u) (by omega) (by omega)⟩⟩, (C7.out.kept hg9 (fun q hq => by injection hq with hq; omega)).mono (by omega), grown_new G7.out hg9 (fun q hq => by injection hq with hq; omega)⟩
    · have d1 : (r == 1) = false := by simpa using e1
      have d1' : decide (r = 1) = false := by simpa using e1
      have C6 := Lib.hid C5
      go_wp2_with (refine wpList_store_own rfl 36 (.tmp 2) (.tmp 35) rfl w.heap.size 0 [.int .i64 (l), .int .i64 (f), .int .i64 (t), .int .i64 (l + a)] rfl rfl w.heap.size 36 4 1 1 _ OZ3.out (by simp) sizeMail rfl ?_; intro w9 ho9 hg9)
      have q0 := own_at ho9 (j := 0) rfl
      have q1 := own_at ho9 (j := 1) rfl
      have q2 := own_at ho9 (j := 2) rfl
      have q3 := own_at ho9 (j := 3) rfl
      exact bodyPost_ret (v := .agg #[.int .i64 (l), .int .i64 (f), .int .i64 (t), .int .i64 (l + a)]) (by simp [results, Tryd.results32, go_sem, q0, q1, q2, q3]) rfl ⟨_, rfl, ⟨⟨l, f, t, l + a⟩, rfl, ⟨smI (l) (by omega) (by omega), smI (f) (by omega) (by omega), smI (t) (by omega) (by omega), smI (l + a) (by omega) (by omega)⟩⟩, (C6.out.kept hg9 (fun q hq => by injection hq with hq; omega)).mono (by omega), grown_new GZ.out hg9 (fun q hq => by injection hq with hq; omega)⟩
end Go.Proofs.YtmgpdenofkloeaaDoor
