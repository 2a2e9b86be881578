/- The draw of one shade; of a hue; of a lightness (made by wip/drawshade1.py). -/
import Derived.Test.YtekfccfghmggmaaDoorCur
import Derived.Test.YtekfccfghmggmaaDoorShadeS3
import Derived.Test.YtekfccfghmggmaaDoorShadeO
import Derived.Test.YtekfccfghmggmaaDoorStructs
namespace Go.Proofs.YtekfccfghmggmaaDoor
open Go.RowKit
set_option linter.unusedVariables false
set_option linter.unusedSimpArgs false
attribute [local go_sem] ExtOf.cell

def smallI (a : Int) : Prop := -100000 ≤ a ∧ a ≤ 100000
theorem smI (a : Int) (h1 : -100000 ≤ a) (h2 : a ≤ 100000) : smallI a := ⟨h1, h2⟩
theorem wf_i64 {a : Int} (h : smallI a) : (Lit.int .i64 a).wf = true := by
  have e1 : IntKind.i64.min = -9223372036854775808 := rfl
  have e2 : IntKind.i64.max = 9223372036854775807 := rfl
  unfold smallI at h
  simp [Lit.wf, e1, e2]; omega
def ShadeSm (r : Shade) : Prop := r.Name.size ≤ 100 ∧ smallI r.Hue ∧ smallI r.Width ∧ smallI r.Dark ∧ smallI r.Light
theorem ShadeSm.wf {r : Shade} (h : ShadeSm r) : r.Wf := ⟨by have := h.1; unfold maxLen; omega, wf_i64 h.2.1, wf_i64 h.2.2.1, wf_i64 h.2.2.2.1, wf_i64 h.2.2.2.2⟩
def ShadeIn (v : Value) (w : World) : Prop := ∃ r : Shade, v = .agg #[.string r.Name, .int .i64 r.Hue, .int .i64 r.Width, .int .i64 r.Dark, .int .i64 r.Light] ∧ ShadeSm r
def StrIn (v : Value) (w : World) : Prop := ∃ s : ByteArray, v = .string s ∧ s.size ≤ 100
theorem shade_size : (Tryd.prog.info? 33).map (·.size) = some 5 := by kernel_rfl
theorem own_list (w : World) (T : TypeId) (l : List Int) (h : l.length ≤ maxLen := by decide) : (w.alloc (.cells (ints l).toArray T)).ownsRow w.heap.size T 1 (.slice (some ⟨w.heap.size, 0, none⟩) l.length l.length) l.length (ints l) :=
  ⟨by simp [ints], .inr ⟨w.heap.size, l.length, (ints l).toArray, rfl, Nat.le_refl _, heap_alloc_new w _, Nat.le_refl _, h, by simp [ints], by rw [Nat.mul_one, List.take_of_length_le (by simp [ints])]⟩⟩
theorem Rd.take {w : World} {A : Option Addr} {n m : Nat} {l : List Int} (h : Rd w A n 1 (ints l)) (hm : m ≤ n) : Rd w A m 1 (ints (l.take m)) := by
  have hl : l.length = n := by have := h.1; rw [ints_length] at this; omega
  refine ⟨by rw [ints_length, List.length_take]; omega, fun hp => ?_⟩
  obtain ⟨b, off, e, hb, hc⟩ := h.2 (by omega)
  refine ⟨b, off, e, hb, fun j u hu => hc j u ?_⟩
  have : ints (l.take m) = (ints l).take m := by simp [ints, List.map_take]
  rw [this, List.getElem?_take] at hu
  split at hu
  · exact hu
  · cases hu
theorem strRd (w : World) (l : List ByteArray) (T : TypeId) : Rd (w.alloc (.cells (strs l).toArray T)) (some ⟨w.heap.size, 0, none⟩) l.length 1 (strs l) := by
  refine ⟨by simp [strs], fun _ => ⟨w.heap.size, 0, rfl, by simp, fun j u hu => ?_⟩⟩
  rw [Nat.zero_add, cell_of_row _ _ _ _ _ _ (heap_alloc_new w _)]
  simpa using hu
set_option maxRecDepth 100000 in
set_option maxHeartbeats 1000000 in
theorem of_any (g b : Nat) (A : Option Addr) (n c : Nat) (l : List ByteArray) (w : World) (h : Cur w g b) (hl : ∀ x ∈ l, x.size ≤ 100) (hb : b ≤ 999999990) (hn : 0 < n) (hn2 : n ≤ 100000) (hr : Rd w A n 1 (strs l)) (ho : Off A g) :
    Calls Tryd.prog 28 #[.pointer (some ⟨g, 0, none⟩), .slice A n c] w (CurPost g (b + 2) w StrIn) := by
  have HL := Lib.hid hl
  clear hl
  go_enter Tryd.func28, Tryd.ntmps28
  go_wp2_with fail
  refine (pick_any g b n _ h hb (by omega)).mono ?_
  rintro e w1 ⟨v, rfl, ⟨r, rfl, r0, r1⟩, c1, g1⟩
  obtain ⟨r, rfl⟩ : ∃ q : Nat, r = q := ⟨r.toNat, by omega⟩
  have hrn : r < n := by omega
  have hrn2 : (r : Int) < n := by omega
  obtain ⟨bb, off, x, rfl, hbb, hx, gx⟩ := (hr.grown g1 ho).str hrn
  go_wp2
  go_ret
  have hx2 := HL.out x (List.mem_of_getElem? hx.out)
  exact ⟨_, rfl, ⟨x, rfl, hx2⟩, c1, g1⟩
theorem of_at (g b gl : Nat) (l : List ByteArray) (w : World) (T : TypeId) (h : Cur w g b) (hgl : w.heap.size = gl) (hl : ∀ x ∈ l, x.size ≤ 100) (hb : b ≤ 999999990) (hn : 0 < l.length) (hn2 : l.length ≤ 100000) :
    Calls Tryd.prog 28 #[.pointer (some ⟨g, 0, none⟩), .slice (some ⟨gl, 0, none⟩) l.length l.length] (w.alloc (.cells (strs l).toArray T)) (CurPost g (b + 2) w StrIn) := by
  subst hgl
  have hne : w.heap.size ≠ g := by have := h.lt; omega
  refine (of_any g b _ _ _ l _ (h.ext ((Ext.refl _).alloc _)) hl hb hn hn2 (strRd w l T) (Off.ne hne)).mono ?_
  rintro e w1 ⟨v, rfl, h1, c1, g1⟩
  exact ⟨v, rfl, h1, c1, grown_trans (grown_of_ext ((Ext.refl _).alloc _)) g1⟩
set_option maxRecDepth 100000 in
set_option maxHeartbeats 1000000 in
theorem hue7_any (g b : Nat) (w : World) (h : Cur w g b) (hb : b ≤ 1000000) :
    Calls Tryd.prog 21 #[.pointer (some ⟨g, 0, none⟩)] w (CurPost g (b + 4) w (IntIn (-1) 360)) := by
  have hgw := h.lt
  have E0 := (Ext.refl w).alloc (.cells (ints [0, 1, 10, 20, 90, 179, 180, 181, 270, 350, 359, -1, 360]).toArray 3)
  have R0 := Lib.hid (own_list w 3 [0, 1, 10, 20, 90, 179, 180, 181, 270, 350, 359, -1, 360])
  go_enter Tryd.func21, Tryd.ntmps21
  go_wp2_with fail
  refine (pick_any g b 24 _ (h.ext E0) (by omega) (by omega)).mono ?_
  rintro e w1 ⟨v, rfl, ⟨r, rfl, r0, r1⟩, C1, G1⟩
  have R1 := Lib.hid (Rd.own (R0.out.kept G1 (Or.inr (by simp [Value.ownBlock]; omega))))
  have GA := Lib.hid (grown_trans (grown_of_ext (g := some g) E0) G1)
  clear R0 G1 E0
  have hr3 : (r.tdiv 11 = 0 ∧ r / 11 = 0) ∨ (r.tdiv 11 = 1 ∧ r / 11 = 1) ∨ (r.tdiv 11 = 2 ∧ r / 11 = 2) := by
    have e : r.tdiv 11 = r / 11 := Int.tdiv_eq_ediv_of_nonneg r0
    rw [e]; omega
  rcases hr3 with ⟨d1, d2⟩ | ⟨d1, d2⟩ | ⟨d1, d2⟩
  · go_wp2_with fail
    refine (among_any g (b + 2) (some ⟨w.heap.size, 0, none⟩) 11 13 [0, 1, 10, 20, 90, 179, 180, 181, 270, 350, 359] (-1) 360 _ C1 (by decide) (by omega) (by decide) (by decide) (Rd.take (m := 11) R1.out (by decide)) (Off.ne (by omega))).mono ?_
    rintro e w2 ⟨v, rfl, ⟨u, rfl, u1, u2⟩, C2, G2⟩
    go_wp2
    go_ret
    exact ⟨_, rfl, ⟨u, rfl, u1, u2⟩, C2, grown_trans GA.out G2⟩
  · go_wp2_with fail
    refine (among_any g (b + 2) (some ⟨w.heap.size, 0, none⟩) 12 13 [0, 1, 10, 20, 90, 179, 180, 181, 270, 350, 359, -1] (-1) 360 _ C1 (by decide) (by omega) (by decide) (by decide) (Rd.take (m := 12) R1.out (by decide)) (Off.ne (by omega))).mono ?_
    rintro e w2 ⟨v, rfl, ⟨u, rfl, u1, u2⟩, C2, G2⟩
    go_wp2
    go_ret
    exact ⟨_, rfl, ⟨u, rfl, u1, u2⟩, C2, grown_trans GA.out G2⟩
  · go_wp2_with fail
    refine (among_any g (b + 2) (some ⟨w.heap.size, 0, none⟩) 13 13 [0, 1, 10, 20, 90, 179, 180, 181, 270, 350, 359, -1, 360] (-1) 360 _ C1 (by decide) (by omega) (by decide) (by decide) (Rd.take (m := 13) R1.out (by decide)) (Off.ne (by omega))).mono ?_
    rintro e w2 ⟨v, rfl, ⟨u, rfl, u1, u2⟩, C2, G2⟩
    go_wp2
    go_ret
    exact ⟨_, rfl, ⟨u, rfl, u1, u2⟩, C2, grown_trans GA.out G2⟩
set_option maxRecDepth 100000 in
set_option maxHeartbeats 1000000 in
theorem light7_any (g b : Nat) (w : World) (h : Cur w g b) (hb : b ≤ 1000000) :
    Calls Tryd.prog 31 #[.pointer (some ⟨g, 0, none⟩)] w (CurPost g (b + 4) w (IntIn (-1) 101)) := by
  have hgw := h.lt
  have E0 := (Ext.refl w).alloc (.cells (ints [0, 30, 49, 50, 51, 70, 100, -1, 101]).toArray 3)
  have R0 := Lib.hid (own_list w 3 [0, 30, 49, 50, 51, 70, 100, -1, 101])
  go_enter Tryd.func31, Tryd.ntmps31
  go_wp2_with fail
  refine (pick_any g b 24 _ (h.ext E0) (by omega) (by omega)).mono ?_
  rintro e w1 ⟨v, rfl, ⟨r, rfl, r0, r1⟩, C1, G1⟩
  have R1 := Lib.hid (Rd.own (R0.out.kept G1 (Or.inr (by simp [Value.ownBlock]; omega))))
  have GA := Lib.hid (grown_trans (grown_of_ext (g := some g) E0) G1)
  clear R0 G1 E0
  have hr3 : (r.tdiv 11 = 0 ∧ r / 11 = 0) ∨ (r.tdiv 11 = 1 ∧ r / 11 = 1) ∨ (r.tdiv 11 = 2 ∧ r / 11 = 2) := by
    have e : r.tdiv 11 = r / 11 := Int.tdiv_eq_ediv_of_nonneg r0
    rw [e]; omega
  rcases hr3 with ⟨d1, d2⟩ | ⟨d1, d2⟩ | ⟨d1, d2⟩
  · go_wp2_with fail
    refine (among_any g (b + 2) (some ⟨w.heap.size, 0, none⟩) 7 9 [0, 30, 49, 50, 51, 70, 100] (-1) 101 _ C1 (by decide) (by omega) (by decide) (by decide) (Rd.take (m := 7) R1.out (by decide)) (Off.ne (by omega))).mono ?_
    rintro e w2 ⟨v, rfl, ⟨u, rfl, u1, u2⟩, C2, G2⟩
    go_wp2
    go_ret
    exact ⟨_, rfl, ⟨u, rfl, u1, u2⟩, C2, grown_trans GA.out G2⟩
  · go_wp2_with fail
    refine (among_any g (b + 2) (some ⟨w.heap.size, 0, none⟩) 8 9 [0, 30, 49, 50, 51, 70, 100, -1] (-1) 101 _ C1 (by decide) (by omega) (by decide) (by decide) (Rd.take (m := 8) R1.out (by decide)) (Off.ne (by omega))).mono ?_
    rintro e w2 ⟨v, rfl, ⟨u, rfl, u1, u2⟩, C2, G2⟩
    go_wp2
    go_ret
    exact ⟨_, rfl, ⟨u, rfl, u1, u2⟩, C2, grown_trans GA.out G2⟩
  · go_wp2_with fail
    refine (among_any g (b + 2) (some ⟨w.heap.size, 0, none⟩) 9 9 [0, 30, 49, 50, 51, 70, 100, -1, 101] (-1) 101 _ C1 (by decide) (by omega) (by decide) (by decide) (Rd.take (m := 9) R1.out (by decide)) (Off.ne (by omega))).mono ?_
    rintro e w2 ⟨v, rfl, ⟨u, rfl, u1, u2⟩, C2, G2⟩
    go_wp2
    go_ret
    exact ⟨_, rfl, ⟨u, rfl, u1, u2⟩, C2, grown_trans GA.out G2⟩
set_option maxRecDepth 100000 in
set_option maxHeartbeats 8000000 in
theorem shade7_any (g b : Nat) (nm : ByteArray) (w : World) (h : Cur w g b) (hb : b ≤ 1000000) (hnm : nm.size ≤ 100) :
    Calls Tryd.prog 51 #[.pointer (some ⟨g, 0, none⟩), .string nm] w (CurPost g (b + 12) w ShadeIn) := by
  have hgw := h.lt
  have oz := own_block w 33 [.string ByteArray.empty, .int .i64 0, .int .i64 0, .int .i64 0, .int .i64 0]
  have OZ := Lib.hid oz
  clear oz
  go_enter Tryd.func51, Tryd.ntmps51
  go_wp2_with fail
  refine (among_at g b _ [0, 5, 20, 180, 350, 359] 0 359 _ _ (h.ext ((Ext.refl _).alloc _)) (by simp) (by decide) (by omega) (by decide) (by decide)).mono ?_
  rintro e w1 ⟨v, rfl, ⟨h, rfl, h1, h2⟩, C1, G1⟩
  go_wp2_with fail
  refine (among_at g (b + 2) _ [0, 5, 10, 15, 90, 179] 0 179 _ _ C1 rfl (by decide) (by omega) (by decide) (by decide)).mono ?_
  rintro e w2 ⟨v, rfl, ⟨wd, rfl, wd1, wd2⟩, C2, G2⟩
  go_wp2_with fail
  refine (among_at g (b + 4) _ [0, 30, 50] 0 50 _ _ C2 rfl (by decide) (by omega) (by decide) (by decide)).mono ?_
  rintro e w3 ⟨v, rfl, ⟨dk, rfl, dk1, dk2⟩, C3, G3⟩
  go_wp2_with fail
  refine (among_at g (b + 6) _ [50, 70, 100] 50 100 _ _ C3 rfl (by decide) (by omega) (by decide) (by decide)).mono ?_
  rintro e w4 ⟨v, rfl, ⟨lt, rfl, lt1, lt2⟩, C4, G4⟩
  go_wp2_with fail
  have E0 := (Ext.refl w4).alloc (.cells #[.string nm, .int .i64 h, .int .i64 wd, .int .i64 dk, .int .i64 lt] 33)
  refine (pick_any g (b + 8) 90 _ (C4.ext E0) (by omega) (by omega)).mono ?_
  rintro e w5 ⟨v, rfl, ⟨r, rfl, r0, r1⟩, C5, G5⟩
  have hne1 : w.heap.size ≠ g := by omega
  have hw4 : w.heap.size < w4.heap.size := by have := G1.size; have := G2.size; have := G3.size; have := G4.size; simp at *; omega
  have G14 := grown_trans (grown_of_ext (g := some g) ((Ext.refl w).alloc (.cells #[.string ByteArray.empty, .int .i64 0, .int .i64 0, .int .i64 0, .int .i64 0] 33))) (grown_trans G1 (grown_trans G2 (grown_trans G3 G4)))
  have GZ := Lib.hid (grown_trans G14 (grown_trans (grown_of_ext (g := some g) E0) G5))
  have nz : Value.ownBlock (.slice (some ⟨w.heap.size, 0, none⟩) 1 1) = none ∨ Value.ownBlock (.slice (some ⟨w.heap.size, 0, none⟩) 1 1) ≠ some g := Or.inr (by simp [Value.ownBlock]; omega)
  have nb : Value.ownBlock (.slice (some ⟨w4.heap.size, 0, none⟩) 1 1) = none ∨ Value.ownBlock (.slice (some ⟨w4.heap.size, 0, none⟩) 1 1) ≠ some g := Or.inr (by simp [Value.ownBlock]; omega)
  have OZ3 := Lib.hid ((E0.own ((((OZ.out.kept G1 nz).kept G2 nz).kept G3 nz).kept G4 nz)).kept G5 nz)
  have BX := Lib.hid ((own_block w4 33 [.string nm, .int .i64 h, .int .i64 wd, .int .i64 dk, .int .i64 lt]).kept G5 nb)
  have x0 := own_at BX.out (j := 0) rfl
  have x1 := own_at BX.out (j := 1) rfl
  have x2 := own_at BX.out (j := 2) rfl
  have x3 := own_at BX.out (j := 3) rfl
  have x4 := own_at BX.out (j := 4) rfl
  have z3 : w4.heap.size < w5.heap.size := World.block_lt_of_cell? w5 _ x0
  clear OZ E0 G14 G1 G2 G3 G4
  by_cases e0 : r = 0
  · subst e0
    go_wp2_with fail
    refine (of_at g (b + 10) _ [⟨#[]⟩, ⟨#[82, 101, 100]⟩, ⟨#[97, 98, 99, 100, 101, 102, 103, 104, 105, 106, 107]⟩] _ _ C5 rfl (by decide) (by omega) (by simp) (by simp)).mono ?_
    rintro e w6 ⟨v, rfl, ⟨u, rfl, v1⟩, C6, G6⟩
    have OZ4 := Lib.hid (OZ3.out.kept G6 nz)
    have BX4 := Lib.hid (BX.out.kept G6 nb)
    clear x0 x1 x2 x3 x4
    have x0 := own_at BX4.out (j := 0) rfl
    have x1 := own_at BX4.out (j := 1) rfl
    have x2 := own_at BX4.out (j := 2) rfl
    have x3 := own_at BX4.out (j := 3) rfl
    have x4 := own_at BX4.out (j := 4) rfl
    have f3 := BX4.out.frozenAt 0
    have z4 : w4.heap.size < w6.heap.size := World.block_lt_of_cell? w6 _ x0
    have s4 := BX4.out.stored 0 (.string u)
    have OZ5 := Lib.hid (OZ4.out.kept s4.2 (Or.inr (by simp [Value.ownBlock]; omega)))
    have C7 := Lib.hid (Cur.kept C6 s4.2 (fun q hq => by injection hq with hq; omega))
    have G7 := Lib.hid (grown_new (grown_trans GZ.out G6) s4.2 (fun q hq => by injection hq with hq; omega))
    clear s4
    go_wp2_with (refine wpList_store_own rfl 33 (.tmp 4) (.tmp 52) rfl w.heap.size 0 [.string u, .int .i64 (h), .int .i64 (wd), .int .i64 (dk), .int .i64 (lt)] rfl rfl w.heap.size 33 5 1 1 _ OZ5.out (by simp) shade_size rfl ?_; intro w9 ho9 hg9)
    have q0 := own_at ho9 (j := 0) rfl
    have q1 := own_at ho9 (j := 1) rfl
    have q2 := own_at ho9 (j := 2) rfl
    have q3 := own_at ho9 (j := 3) rfl
    have q4 := own_at ho9 (j := 4) rfl
    exact bodyPost_ret (v := .agg #[.string u, .int .i64 (h), .int .i64 (wd), .int .i64 (dk), .int .i64 (lt)]) (by simp [results, Tryd.results51, go_sem, q0, q1, q2, q3, q4]) rfl ⟨_, rfl, ⟨⟨u, h, wd, dk, lt⟩, rfl, ⟨by show u.size ≤ 100; omega, smI (h) (by omega) (by omega), smI (wd) (by omega) (by omega), smI (dk) (by omega) (by omega), smI (lt) (by omega) (by omega)⟩⟩, (C7.out.kept hg9 (fun q hq => by injection hq with hq; omega)).mono (by omega), grown_new G7.out hg9 (fun q hq => by injection hq with hq; omega)⟩
  · have d0 : (r == 0) = false := by simpa using e0
    have d0' : decide (r = 0) = false := by simpa using e0
    by_cases e1 : r = 1
    · subst e1
      go_wp2_with fail
      refine (among_at g (b + 10) _ [-1, 360] (-1) 360 _ _ C5 rfl (by decide) (by omega) (by simp) (by simp)).mono ?_
      rintro e w6 ⟨v, rfl, ⟨u, rfl, v1, v2⟩, C6, G6⟩
      have OZ4 := Lib.hid (OZ3.out.kept G6 nz)
      have BX4 := Lib.hid (BX.out.kept G6 nb)
      clear x0 x1 x2 x3 x4
      have x0 := own_at BX4.out (j := 0) rfl
      have x1 := own_at BX4.out (j := 1) rfl
      have x2 := own_at BX4.out (j := 2) rfl
      have x3 := own_at BX4.out (j := 3) rfl
      have x4 := own_at BX4.out (j := 4) rfl
      have f3 := BX4.out.frozenAt 1
      have z4 : w4.heap.size < w6.heap.size := World.block_lt_of_cell? w6 _ x0
      have s4 := BX4.out.stored 1 (.int .i64 u)
      have OZ5 := Lib.hid (OZ4.out.kept s4.2 (Or.inr (by simp [Value.ownBlock]; omega)))
      have C7 := Lib.hid (Cur.kept C6 s4.2 (fun q hq => by injection hq with hq; omega))
      have G7 := Lib.hid (grown_new (grown_trans GZ.out G6) s4.2 (fun q hq => by injection hq with hq; omega))
      clear s4
      go_wp2_with (refine wpList_store_own rfl 33 (.tmp 4) (.tmp 52) rfl w.heap.size 0 [.string nm, .int .i64 (u), .int .i64 (wd), .int .i64 (dk), .int .i64 (lt)] rfl rfl w.heap.size 33 5 1 1 _ OZ5.out (by simp) shade_size rfl ?_; intro w9 ho9 hg9)
      have q0 := own_at ho9 (j := 0) rfl
      have q1 := own_at ho9 (j := 1) rfl
      have q2 := own_at ho9 (j := 2) rfl
      have q3 := own_at ho9 (j := 3) rfl
      have q4 := own_at ho9 (j := 4) rfl
      exact bodyPost_ret (v := .agg #[.string nm, .int .i64 (u), .int .i64 (wd), .int .i64 (dk), .int .i64 (lt)]) (by simp [results, Tryd.results51, go_sem, q0, q1, q2, q3, q4]) rfl ⟨_, rfl, ⟨⟨nm, u, wd, dk, lt⟩, rfl, ⟨by show nm.size ≤ 100; omega, smI (u) (by omega) (by omega), smI (wd) (by omega) (by omega), smI (dk) (by omega) (by omega), smI (lt) (by omega) (by omega)⟩⟩, (C7.out.kept hg9 (fun q hq => by injection hq with hq; omega)).mono (by omega), grown_new G7.out hg9 (fun q hq => by injection hq with hq; omega)⟩
    · have d1 : (r == 1) = false := by simpa using e1
      have d1' : decide (r = 1) = false := by simpa using e1
      by_cases e2 : r = 2
      · subst e2
        go_wp2_with fail
        refine (among_at g (b + 10) _ [-1, 180] (-1) 180 _ _ C5 rfl (by decide) (by omega) (by simp) (by simp)).mono ?_
        rintro e w6 ⟨v, rfl, ⟨u, rfl, v1, v2⟩, C6, G6⟩
        have OZ4 := Lib.hid (OZ3.out.kept G6 nz)
        have BX4 := Lib.hid (BX.out.kept G6 nb)
        clear x0 x1 x2 x3 x4
        have x0 := own_at BX4.out (j := 0) rfl
        have x1 := own_at BX4.out (j := 1) rfl
        have x2 := own_at BX4.out (j := 2) rfl
        have x3 := own_at BX4.out (j := 3) rfl
        have x4 := own_at BX4.out (j := 4) rfl
        have f3 := BX4.out.frozenAt 2
        have z4 : w4.heap.size < w6.heap.size := World.block_lt_of_cell? w6 _ x0
        have s4 := BX4.out.stored 2 (.int .i64 u)
        have OZ5 := Lib.hid (OZ4.out.kept s4.2 (Or.inr (by simp [Value.ownBlock]; omega)))
        have C7 := Lib.hid (Cur.kept C6 s4.2 (fun q hq => by injection hq with hq; omega))
        have G7 := Lib.hid (grown_new (grown_trans GZ.out G6) s4.2 (fun q hq => by injection hq with hq; omega))
        clear s4
        go_wp2_with (refine wpList_store_own rfl 33 (.tmp 4) (.tmp 52) rfl w.heap.size 0 [.string nm, .int .i64 (h), .int .i64 (u), .int .i64 (dk), .int .i64 (lt)] rfl rfl w.heap.size 33 5 1 1 _ OZ5.out (by simp) shade_size rfl ?_; intro w9 ho9 hg9)
        have q0 := own_at ho9 (j := 0) rfl
        have q1 := own_at ho9 (j := 1) rfl
        have q2 := own_at ho9 (j := 2) rfl
        have q3 := own_at ho9 (j := 3) rfl
        have q4 := own_at ho9 (j := 4) rfl
        exact bodyPost_ret (v := .agg #[.string nm, .int .i64 (h), .int .i64 (u), .int .i64 (dk), .int .i64 (lt)]) (by simp [results, Tryd.results51, go_sem, q0, q1, q2, q3, q4]) rfl ⟨_, rfl, ⟨⟨nm, h, u, dk, lt⟩, rfl, ⟨by show nm.size ≤ 100; omega, smI (h) (by omega) (by omega), smI (u) (by omega) (by omega), smI (dk) (by omega) (by omega), smI (lt) (by omega) (by omega)⟩⟩, (C7.out.kept hg9 (fun q hq => by injection hq with hq; omega)).mono (by omega), grown_new G7.out hg9 (fun q hq => by injection hq with hq; omega)⟩
      · have d2 : (r == 2) = false := by simpa using e2
        have d2' : decide (r = 2) = false := by simpa using e2
        by_cases e3 : r = 3
        · subst e3
          go_wp2_with fail
          refine (among_at g (b + 10) _ [-1, lt + 1] (-1) 1000 _ _ C5 rfl (by intro x hx; simp at hx; omega) (by omega) (by simp) (by simp)).mono ?_
          rintro e w6 ⟨v, rfl, ⟨u, rfl, v1, v2⟩, C6, G6⟩
          have OZ4 := Lib.hid (OZ3.out.kept G6 nz)
          have BX4 := Lib.hid (BX.out.kept G6 nb)
          clear x0 x1 x2 x3 x4
          have x0 := own_at BX4.out (j := 0) rfl
          have x1 := own_at BX4.out (j := 1) rfl
          have x2 := own_at BX4.out (j := 2) rfl
          have x3 := own_at BX4.out (j := 3) rfl
          have x4 := own_at BX4.out (j := 4) rfl
          have f3 := BX4.out.frozenAt 3
          have z4 : w4.heap.size < w6.heap.size := World.block_lt_of_cell? w6 _ x0
          have s4 := BX4.out.stored 3 (.int .i64 u)
          have OZ5 := Lib.hid (OZ4.out.kept s4.2 (Or.inr (by simp [Value.ownBlock]; omega)))
          have C7 := Lib.hid (Cur.kept C6 s4.2 (fun q hq => by injection hq with hq; omega))
          have G7 := Lib.hid (grown_new (grown_trans GZ.out G6) s4.2 (fun q hq => by injection hq with hq; omega))
          clear s4
          go_wp2_with (refine wpList_store_own rfl 33 (.tmp 4) (.tmp 52) rfl w.heap.size 0 [.string nm, .int .i64 (h), .int .i64 (wd), .int .i64 (u), .int .i64 (lt)] rfl rfl w.heap.size 33 5 1 1 _ OZ5.out (by simp) shade_size rfl ?_; intro w9 ho9 hg9)
          have q0 := own_at ho9 (j := 0) rfl
          have q1 := own_at ho9 (j := 1) rfl
          have q2 := own_at ho9 (j := 2) rfl
          have q3 := own_at ho9 (j := 3) rfl
          have q4 := own_at ho9 (j := 4) rfl
          exact bodyPost_ret (v := .agg #[.string nm, .int .i64 (h), .int .i64 (wd), .int .i64 (u), .int .i64 (lt)]) (by simp [results, Tryd.results51, go_sem, q0, q1, q2, q3, q4]) rfl ⟨_, rfl, ⟨⟨nm, h, wd, u, lt⟩, rfl, ⟨by show nm.size ≤ 100; omega, smI (h) (by omega) (by omega), smI (wd) (by omega) (by omega), smI (u) (by omega) (by omega), smI (lt) (by omega) (by omega)⟩⟩, (C7.out.kept hg9 (fun q hq => by injection hq with hq; omega)).mono (by omega), grown_new G7.out hg9 (fun q hq => by injection hq with hq; omega)⟩
        · have d3 : (r == 3) = false := by simpa using e3
          have d3' : decide (r = 3) = false := by simpa using e3
          by_cases e4 : r = 4
          · subst e4
            have OZ4 := Lib.hid (OZ3.out)
            have BX4 := Lib.hid (BX.out)
            clear x0 x1 x2 x3 x4
            have x0 := own_at BX4.out (j := 0) rfl
            have x1 := own_at BX4.out (j := 1) rfl
            have x2 := own_at BX4.out (j := 2) rfl
            have x3 := own_at BX4.out (j := 3) rfl
            have x4 := own_at BX4.out (j := 4) rfl
            have f3 := BX4.out.frozenAt 4
            have z4 : w4.heap.size < w5.heap.size := World.block_lt_of_cell? w5 _ x0
            have s4 := BX4.out.stored 4 (.int .i64 101)
            have OZ5 := Lib.hid (OZ4.out.kept s4.2 (Or.inr (by simp [Value.ownBlock]; omega)))
            have C7 := Lib.hid (Cur.kept C5 s4.2 (fun q hq => by injection hq with hq; omega))
            have G7 := Lib.hid (grown_new (GZ.out) s4.2 (fun q hq => by injection hq with hq; omega))
            clear s4
            go_wp2_with (refine wpList_store_own rfl 33 (.tmp 4) (.tmp 52) rfl w.heap.size 0 [.string nm, .int .i64 (h), .int .i64 (wd), .int .i64 (dk), .int .i64 (101)] rfl rfl w.heap.size 33 5 1 1 _ OZ5.out (by simp) shade_size rfl ?_; intro w9 ho9 hg9)
            have q0 := own_at ho9 (j := 0) rfl
            have q1 := own_at ho9 (j := 1) rfl
            have q2 := own_at ho9 (j := 2) rfl
            have q3 := own_at ho9 (j := 3) rfl
            have q4 := own_at ho9 (j := 4) rfl
            exact bodyPost_ret (v := .agg #[.string nm, .int .i64 (h), .int .i64 (wd), .int .i64 (dk), .int .i64 (101)]) (by simp [results, Tryd.results51, go_sem, q0, q1, q2, q3, q4]) rfl ⟨_, rfl, ⟨⟨nm, h, wd, dk, 101⟩, rfl, ⟨by show nm.size ≤ 100; omega, smI (h) (by omega) (by omega), smI (wd) (by omega) (by omega), smI (dk) (by omega) (by omega), smI (101) (by omega) (by omega)⟩⟩, (C7.out.kept hg9 (fun q hq => by injection hq with hq; omega)).mono (by omega), grown_new G7.out hg9 (fun q hq => by injection hq with hq; omega)⟩
          · have d4 : (r == 4) = false := by simpa using e4
            have d4' : decide (r = 4) = false := by simpa using e4
            have C6 := Lib.hid C5
            go_wp2_with (refine wpList_store_own rfl 33 (.tmp 4) (.tmp 52) rfl w.heap.size 0 [.string nm, .int .i64 (h), .int .i64 (wd), .int .i64 (dk), .int .i64 (lt)] rfl rfl w.heap.size 33 5 1 1 _ OZ3.out (by simp) shade_size rfl ?_; intro w9 ho9 hg9)
            have q0 := own_at ho9 (j := 0) rfl
            have q1 := own_at ho9 (j := 1) rfl
            have q2 := own_at ho9 (j := 2) rfl
            have q3 := own_at ho9 (j := 3) rfl
            have q4 := own_at ho9 (j := 4) rfl
            exact bodyPost_ret (v := .agg #[.string nm, .int .i64 (h), .int .i64 (wd), .int .i64 (dk), .int .i64 (lt)]) (by simp [results, Tryd.results51, go_sem, q0, q1, q2, q3, q4]) rfl ⟨_, rfl, ⟨⟨nm, h, wd, dk, lt⟩, rfl, ⟨by show nm.size ≤ 100; omega, smI (h) (by omega) (by omega), smI (wd) (by omega) (by omega), smI (dk) (by omega) (by omega), smI (lt) (by omega) (by omega)⟩⟩, (C6.out.kept hg9 (fun q hq => by injection hq with hq; omega)).mono (by omega), grown_new GZ.out hg9 (fun q hq => by injection hq with hq; omega)⟩
end Go.Proofs.YtekfccfghmggmaaDoor
