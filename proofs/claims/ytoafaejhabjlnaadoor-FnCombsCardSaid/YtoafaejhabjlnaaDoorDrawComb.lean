/- The draws of a gauge, of a question, of a comb (made by wip/drawcomb.py). -/
import Derived.Test.YtoafaejhabjlnaaDoorCur
import Derived.Test.YtoafaejhabjlnaaDoorCombsP
namespace Go.Proofs.YtoafaejhabjlnaaDoor
open Go.RowKit
set_option linter.unusedVariables false
set_option linter.unusedSimpArgs false
attribute [local go_sem] ExtOf.cell

theorem own_list (w : World) (T : TypeId) (l : List Int) (h : l.length ≤ maxLen := by decide) : (w.alloc (.cells (ints l).toArray T)).ownsRow w.heap.size T 1 (.slice (some ⟨w.heap.size, 0, none⟩) l.length l.length) l.length (ints l) :=
  ⟨by simp [ints], .inr ⟨w.heap.size, l.length, (ints l).toArray, rfl, Nat.le_refl _, heap_alloc_new w _, Nat.le_refl _, h, by simp [ints], by rw [Nat.mul_one, List.take_of_length_le (by simp [ints])]⟩⟩
theorem Rd.take {w : World} {A : Option Addr} {n m : Nat} {l : List Int} (h : Rd w A n 1 (ints l)) (hm : m ≤ n) : Rd w A m 1 (ints (l.take m)) := by
  have hl : l.length = n := by have := h.1; rw [ints_length] at this; omega
  refine ⟨by rw [ints_length, List.length_take]; omega, fun hp => ?_⟩
  obtain ⟨b, off, e, hb, hc⟩ := h.2 (by omega)
  refine ⟨b, off, e, hb, fun j u hu => hc j u ?_⟩
  have : ints (l.take m) = (ints l).take m := by simp [ints, List.map_take]
  rw [this, List.getElem?_take] at hu
  split at hu
  · exact hu
  · cases hu
theorem comb_size : (Tryd.prog.info? 32).map (·.size) = some 4 := by kernel_rfl
def CombIn (v : Value) (w : World) : Prop := ∃ r : Comb, v = .agg #[.int .i64 r.Id, .int .i64 r.Wide, .int .i64 r.High, .bool r.Line]
set_option maxRecDepth 100000 in
set_option maxHeartbeats 1000000 in
theorem gauge5_any (g b : Nat) (w : World) (h : Cur w g b) (hb : b ≤ 1000000) :
    Calls Tryd.prog 46 #[.pointer (some ⟨g, 0, none⟩)] w (CurPost g (b + 2) w (IntIn 500 2000)) := by
  go_enter Tryd.func46, Tryd.ntmps46
  go_wp2_with fail
  refine (among_at g b _ [500, 1100, 1150, 1175, 1200, 1400, 2000] 500 2000 _ _ h rfl (by decide) (by omega) (by decide) (by decide)).mono ?_
  rintro e w1 ⟨v, rfl, ⟨u, rfl, u1, u2⟩, C1, G1⟩
  go_wp2
  go_ret
  exact ⟨_, rfl, ⟨u, rfl, u1, u2⟩, C1, G1⟩
set_option maxRecDepth 100000 in
set_option maxHeartbeats 1000000 in
theorem ask5_any (g b : Nat) (w : World) (h : Cur w g b) (hb : b ≤ 100000) :
    Calls Tryd.prog 27 #[.pointer (some ⟨g, 0, none⟩)] w (CurPost g (b + 6) w (IntIn (-100) 3000)) := by
  go_enter Tryd.func27, Tryd.ntmps27
  go_wp2_with fail
  refine (one_any g b 8 _ h (by omega) (by omega)).mono ?_
  rintro e w1 ⟨v, rfl, ⟨ok, rfl⟩, C1, G1⟩
  cases ok
  · go_wp2_with fail
    refine (gauge5_any g (b + 2) _ C1 (by omega)).mono ?_
    rintro e w2 ⟨v, rfl, ⟨u, rfl, u1, u2⟩, C2, G2⟩
    go_wp2_with fail
    refine (among_at g (b + 4) _ [0, 0, 10, 25, -25] (-25) 25 _ _ C2 rfl (by decide) (by omega) (by decide) (by decide)).mono ?_
    rintro e w3 ⟨v, rfl, ⟨x, rfl, x1, x2⟩, C3, G3⟩
    go_wp2
    go_ret
    exact ⟨_, rfl, ⟨u + x, rfl, by omega, by omega⟩, C3, grown_trans G1 (grown_trans G2 G3)⟩
  · go_wp2_with fail
    refine (among_at g (b + 2) _ [0, 0, 499, 2001] 0 2001 _ _ C1 rfl (by decide) (by omega) (by decide) (by decide)).mono ?_
    rintro e w2 ⟨v, rfl, ⟨u, rfl, u1, u2⟩, C2, G2⟩
    go_wp2
    go_ret
    exact ⟨_, rfl, ⟨u, rfl, by omega, by omega⟩, C2.mono (by omega), grown_trans G1 G2⟩
/-- A comb that is being drawn: its box at xb, the result's box at the beginning's end, the cursor. -/
structure BSt (w0 : World) (g b xb : Nat) (cs : List Value) (w : World) : Prop where
  cur : Cur w g b
  bx : w.ownsRow w0.heap.size 32 4 (.slice (some ⟨xb, 0, none⟩) 1 1) 1 cs
  res : w.ownsRow w0.heap.size 32 4 (.slice (some ⟨w0.heap.size, 0, none⟩) 1 1) 1 [.int .i64 0, .int .i64 0, .int .i64 0, .bool false]
  grown : w0.grownBy w (some g)
  hg : g < w0.heap.size
  hx : w0.heap.size < xb
section
variable {w0 w w' : World} {g b xb : Nat} {cs : List Value}
theorem BSt.draw (h : BSt w0 g b xb cs w) {b' : Nat} (hc : Cur w' g b') (hg : w.grownBy w' (some g)) : BSt w0 g b' xb cs w' := by
  have h1 := h.hg
  have h2 := h.hx
  exact ⟨hc, h.bx.kept hg (.inr (by simp only [Value.ownBlock]; intro e; injection e with e; omega)), h.res.kept hg (.inr (by simp only [Value.ownBlock]; intro e; injection e with e; omega)), grown_trans h.grown hg, h.hg, h.hx⟩
theorem BSt.step (h : BSt w0 g b xb cs w) (he : Ext w w') : BSt w0 g b xb cs w' := ⟨h.cur.ext he, he.own h.bx, he.own h.res, grown_trans h.grown (grown_of_ext he), h.hg, h.hx⟩
theorem BSt.put (h : BSt w0 g b xb cs w) (j : Nat) (v : Value) : BSt w0 g b xb (cs.set j v) (w.setCell ⟨xb, j, none⟩ v) := by
  have h1 := h.hg
  have h2 := h.hx
  have st := h.bx.stored j v
  refine ⟨h.cur.kept st.2 (fun q hq => ?_), st.1, h.res.kept st.2 (.inr (by simp only [Value.ownBlock]; intro e; injection e with e; omega)), grown_new h.grown st.2 (fun q hq => ?_), h.hg, h.hx⟩
  · have e : some xb = some q := hq
    injection e with e; omega
  · have e : some xb = some q := hq
    injection e with e; omega
end
set_option maxRecDepth 100000 in
set_option maxHeartbeats 8000000 in
theorem comb5_any (g b : Nat) (id : Int) (w : World) (h : Cur w g b) (hb : b ≤ 100000) :
    Calls Tryd.prog 40 #[.pointer (some ⟨g, 0, none⟩), .int .i64 id] w (CurPost g (b + 20) w CombIn) := by
  have hgw := h.lt
  have OZ := Lib.hid (own_block w 32 [.int .i64 0, .int .i64 0, .int .i64 0, .bool false])
  go_enter Tryd.func40, Tryd.ntmps40
  go_wp2_with fail
  refine (gauge5_any g b _ (h.ext ((Ext.refl _).alloc _)) (by omega)).mono ?_
  rintro e w1 ⟨v, rfl, ⟨wd, rfl, wd1, wd2⟩, C1, G1⟩
  go_wp2_with fail
  refine (gauge5_any g (b + 2) _ C1 (by omega)).mono ?_
  rintro e w2 ⟨v, rfl, ⟨hh, rfl, hh1, hh2⟩, C2, G2⟩
  go_wp2_with fail
  refine (one_any g (b + 4) 3 _ C2 (by omega) (by omega)).mono ?_
  rintro e w3 ⟨v, rfl, ⟨ln, rfl⟩, C3, G3⟩
  have nz : Value.ownBlock (.slice (some ⟨w.heap.size, 0, none⟩) 1 1) = none ∨ Value.ownBlock (.slice (some ⟨w.heap.size, 0, none⟩) 1 1) ≠ some g := Or.inr (by simp [Value.ownBlock]; omega)
  have E4 := (Ext.refl w3).alloc (.cells #[.int .i64 id, .int .i64 wd, .int .i64 hh, .bool ln] 32)
  have hsz : w.heap.size < w3.heap.size := by have := G1.size; have := G2.size; have := G3.size; simp only [World.size_alloc] at *; omega
  have S3 := Lib.hid (show BSt w g (b + 6) w3.heap.size [.int .i64 id, .int .i64 wd, .int .i64 hh, .bool ln] (w3.alloc (.cells #[.int .i64 id, .int .i64 wd, .int .i64 hh, .bool ln] 32)) from
    ⟨C3.ext E4, own_low' (own_block w3 32 [.int .i64 id, .int .i64 wd, .int .i64 hh, .bool ln]) (by omega), E4.own (((OZ.out.kept G1 nz).kept G2 nz).kept G3 nz), grown_trans (grown_trans (grown_of_ext ((Ext.refl w).alloc _)) (grown_trans G1 (grown_trans G2 G3))) (grown_of_ext E4), hgw, hsz⟩)
  clear OZ C1 C2 C3 G1 G2 G3 E4
  go_wp2_with fail
  refine (one_any g (b + 6) 3 _ S3.out.cur (by omega) (by omega)).mono ?_
  rintro e w4 ⟨v, rfl, ⟨eq, rfl⟩, C4, G4⟩
  have S4 := Lib.hid (S3.out.draw C4 G4)
  clear C4 G4 S3
  generalize w3.heap.size = xb at *
  cases eq
  · clear nz
    go_wp2_with fail
    refine (pick_any g (b + 8) 80 _ S4.out.cur (by omega) (by omega)).mono ?_
    rintro e w5 ⟨v, rfl, ⟨r, rfl, r0, r1⟩, C5, G5⟩
    have S5 := Lib.hid (S4.out.draw C5 G5)
    clear C5 G5 S4
    have x0 := own_at S5.out.bx (j := 0) rfl
    have x1 := own_at S5.out.bx (j := 1) rfl
    have x2 := own_at S5.out.bx (j := 2) rfl
    have x3 := own_at S5.out.bx (j := 3) rfl
    have zx : xb < w5.heap.size := World.block_lt_of_cell? w5 _ x0
    have rx := own_at S5.out.res (j := 0) rfl
    have zr : w.heap.size < w5.heap.size := World.block_lt_of_cell? w5 _ rx
    by_cases e0 : r = 0
    · subst e0
      go_wp2_with fail
      refine (among_at g (b + 10) _ [0, 99, 100] 0 100 _ _ S5.out.cur rfl (by decide) (by omega) (by decide) (by decide)).mono ?_
      rintro e w6 ⟨v, rfl, ⟨u, rfl, u1, u2⟩, C6, G6⟩
      have S6 := Lib.hid (S5.out.draw C6 G6)
      clear C6 G6 x0 x1 x2 x3 zx rx zr
      have x0 := own_at S6.out.bx (j := 0) rfl
      have x1 := own_at S6.out.bx (j := 1) rfl
      have x2 := own_at S6.out.bx (j := 2) rfl
      have x3 := own_at S6.out.bx (j := 3) rfl
      have zx : xb < w6.heap.size := World.block_lt_of_cell? w6 _ x0
      have rx := own_at S6.out.res (j := 0) rfl
      have zr : w.heap.size < w6.heap.size := World.block_lt_of_cell? w6 _ rx
      have f6 := S6.out.bx.frozenAt 0
      have S7 := Lib.hid (S6.out.put 0 (.int .i64 u))
      simp only [List.set_cons_zero, List.set_cons_succ] at S7
      go_wp2_with (refine wpList_store_own rfl 32 (.tmp 4) (.tmp 39) rfl w.heap.size 0 [.int .i64 (u), .int .i64 (wd), .int .i64 (hh), .bool ln] rfl rfl w.heap.size 32 4 1 1 _ S7.out.res (by simp) comb_size rfl ?_; intro w9 ho9 hg9)
      have q0 := own_at ho9 (j := 0) rfl
      have q1 := own_at ho9 (j := 1) rfl
      have q2 := own_at ho9 (j := 2) rfl
      have q3 := own_at ho9 (j := 3) rfl
      exact bodyPost_ret (v := .agg #[.int .i64 (u), .int .i64 (wd), .int .i64 (hh), .bool ln]) (by simp [results, Tryd.results40, go_sem, q0, q1, q2, q3]) rfl ⟨_, rfl, ⟨⟨(u), (wd), (hh), ln⟩, rfl⟩, (S7.out.cur.kept hg9 (fun q hq => by injection hq with hq; have := S7.out.hg; omega)).mono (by omega), grown_new S7.out.grown hg9 (fun q hq => by injection hq with hq; omega)⟩
    · have d0 : (r == 0) = false := by simpa using e0
      have d0' : decide (r = 0) = false := by simpa using e0
      by_cases e1 : r = 1
      · subst e1
        go_wp2_with fail
        refine (among_at g (b + 10) _ [499, 2001] 499 2001 _ _ S5.out.cur rfl (by decide) (by omega) (by decide) (by decide)).mono ?_
        rintro e w6 ⟨v, rfl, ⟨u, rfl, u1, u2⟩, C6, G6⟩
        have S6 := Lib.hid (S5.out.draw C6 G6)
        clear C6 G6 x0 x1 x2 x3 zx rx zr
        have x0 := own_at S6.out.bx (j := 0) rfl
        have x1 := own_at S6.out.bx (j := 1) rfl
        have x2 := own_at S6.out.bx (j := 2) rfl
        have x3 := own_at S6.out.bx (j := 3) rfl
        have zx : xb < w6.heap.size := World.block_lt_of_cell? w6 _ x0
        have rx := own_at S6.out.res (j := 0) rfl
        have zr : w.heap.size < w6.heap.size := World.block_lt_of_cell? w6 _ rx
        have f6 := S6.out.bx.frozenAt 1
        have S7 := Lib.hid (S6.out.put 1 (.int .i64 u))
        simp only [List.set_cons_zero, List.set_cons_succ] at S7
        go_wp2_with (refine wpList_store_own rfl 32 (.tmp 4) (.tmp 39) rfl w.heap.size 0 [.int .i64 (id), .int .i64 (u), .int .i64 (hh), .bool ln] rfl rfl w.heap.size 32 4 1 1 _ S7.out.res (by simp) comb_size rfl ?_; intro w9 ho9 hg9)
        have q0 := own_at ho9 (j := 0) rfl
        have q1 := own_at ho9 (j := 1) rfl
        have q2 := own_at ho9 (j := 2) rfl
        have q3 := own_at ho9 (j := 3) rfl
        exact bodyPost_ret (v := .agg #[.int .i64 (id), .int .i64 (u), .int .i64 (hh), .bool ln]) (by simp [results, Tryd.results40, go_sem, q0, q1, q2, q3]) rfl ⟨_, rfl, ⟨⟨(id), (u), (hh), ln⟩, rfl⟩, (S7.out.cur.kept hg9 (fun q hq => by injection hq with hq; have := S7.out.hg; omega)).mono (by omega), grown_new S7.out.grown hg9 (fun q hq => by injection hq with hq; omega)⟩
      · have d1 : (r == 1) = false := by simpa using e1
        have d1' : decide (r = 1) = false := by simpa using e1
        by_cases e2 : r = 2
        · subst e2
          go_wp2_with fail
          refine (among_at g (b + 10) _ [499, 2001] 499 2001 _ _ S5.out.cur rfl (by decide) (by omega) (by decide) (by decide)).mono ?_
          rintro e w6 ⟨v, rfl, ⟨u, rfl, u1, u2⟩, C6, G6⟩
          have S6 := Lib.hid (S5.out.draw C6 G6)
          clear C6 G6 x0 x1 x2 x3 zx rx zr
          have x0 := own_at S6.out.bx (j := 0) rfl
          have x1 := own_at S6.out.bx (j := 1) rfl
          have x2 := own_at S6.out.bx (j := 2) rfl
          have x3 := own_at S6.out.bx (j := 3) rfl
          have zx : xb < w6.heap.size := World.block_lt_of_cell? w6 _ x0
          have rx := own_at S6.out.res (j := 0) rfl
          have zr : w.heap.size < w6.heap.size := World.block_lt_of_cell? w6 _ rx
          have f6 := S6.out.bx.frozenAt 2
          have S7 := Lib.hid (S6.out.put 2 (.int .i64 u))
          simp only [List.set_cons_zero, List.set_cons_succ] at S7
          go_wp2_with (refine wpList_store_own rfl 32 (.tmp 4) (.tmp 39) rfl w.heap.size 0 [.int .i64 (id), .int .i64 (wd), .int .i64 (u), .bool ln] rfl rfl w.heap.size 32 4 1 1 _ S7.out.res (by simp) comb_size rfl ?_; intro w9 ho9 hg9)
          have q0 := own_at ho9 (j := 0) rfl
          have q1 := own_at ho9 (j := 1) rfl
          have q2 := own_at ho9 (j := 2) rfl
          have q3 := own_at ho9 (j := 3) rfl
          exact bodyPost_ret (v := .agg #[.int .i64 (id), .int .i64 (wd), .int .i64 (u), .bool ln]) (by simp [results, Tryd.results40, go_sem, q0, q1, q2, q3]) rfl ⟨_, rfl, ⟨⟨(id), (wd), (u), ln⟩, rfl⟩, (S7.out.cur.kept hg9 (fun q hq => by injection hq with hq; have := S7.out.hg; omega)).mono (by omega), grown_new S7.out.grown hg9 (fun q hq => by injection hq with hq; omega)⟩
        · have d2 : (r == 2) = false := by simpa using e2
          have d2' : decide (r = 2) = false := by simpa using e2
          go_wp2_with (refine wpList_store_own rfl 32 (.tmp 4) (.tmp 39) rfl w.heap.size 0 [.int .i64 (id), .int .i64 (wd), .int .i64 (hh), .bool ln] rfl rfl w.heap.size 32 4 1 1 _ S5.out.res (by simp) comb_size rfl ?_; intro w9 ho9 hg9)
          have q0 := own_at ho9 (j := 0) rfl
          have q1 := own_at ho9 (j := 1) rfl
          have q2 := own_at ho9 (j := 2) rfl
          have q3 := own_at ho9 (j := 3) rfl
          exact bodyPost_ret (v := .agg #[.int .i64 (id), .int .i64 (wd), .int .i64 (hh), .bool ln]) (by simp [results, Tryd.results40, go_sem, q0, q1, q2, q3]) rfl ⟨_, rfl, ⟨⟨(id), (wd), (hh), ln⟩, rfl⟩, (S5.out.cur.kept hg9 (fun q hq => by injection hq with hq; have := S5.out.hg; omega)).mono (by omega), grown_new S5.out.grown hg9 (fun q hq => by injection hq with hq; omega)⟩
  · clear nz
    have x0 := own_at S4.out.bx (j := 0) rfl
    have x1 := own_at S4.out.bx (j := 1) rfl
    have x2 := own_at S4.out.bx (j := 2) rfl
    have x3 := own_at S4.out.bx (j := 3) rfl
    have zx : xb < w4.heap.size := World.block_lt_of_cell? w4 _ x0
    have rx := own_at S4.out.res (j := 0) rfl
    have zr : w.heap.size < w4.heap.size := World.block_lt_of_cell? w4 _ rx
    have f4 := S4.out.bx.frozenAt 2
    have S4' := Lib.hid (S4.out.put 2 (.int .i64 wd))
    simp only [List.set_cons_zero, List.set_cons_succ] at S4'
    go_wp2_with fail
    refine (pick_any g (b + 8) 80 _ S4'.out.cur (by omega) (by omega)).mono ?_
    rintro e w5 ⟨v, rfl, ⟨r, rfl, r0, r1⟩, C5, G5⟩
    have S5 := Lib.hid (S4'.out.draw C5 G5)
    clear C5 G5 S4 S4' f4 x0 x1 x2 x3 zx rx zr
    have x0 := own_at S5.out.bx (j := 0) rfl
    have x1 := own_at S5.out.bx (j := 1) rfl
    have x2 := own_at S5.out.bx (j := 2) rfl
    have x3 := own_at S5.out.bx (j := 3) rfl
    have zx : xb < w5.heap.size := World.block_lt_of_cell? w5 _ x0
    have rx := own_at S5.out.res (j := 0) rfl
    have zr : w.heap.size < w5.heap.size := World.block_lt_of_cell? w5 _ rx
    by_cases e0 : r = 0
    · subst e0
      go_wp2_with fail
      refine (among_at g (b + 10) _ [0, 99, 100] 0 100 _ _ S5.out.cur rfl (by decide) (by omega) (by decide) (by decide)).mono ?_
      rintro e w6 ⟨v, rfl, ⟨u, rfl, u1, u2⟩, C6, G6⟩
      have S6 := Lib.hid (S5.out.draw C6 G6)
      clear C6 G6 x0 x1 x2 x3 zx rx zr
      have x0 := own_at S6.out.bx (j := 0) rfl
      have x1 := own_at S6.out.bx (j := 1) rfl
      have x2 := own_at S6.out.bx (j := 2) rfl
      have x3 := own_at S6.out.bx (j := 3) rfl
      have zx : xb < w6.heap.size := World.block_lt_of_cell? w6 _ x0
      have rx := own_at S6.out.res (j := 0) rfl
      have zr : w.heap.size < w6.heap.size := World.block_lt_of_cell? w6 _ rx
      have f6 := S6.out.bx.frozenAt 0
      have S7 := Lib.hid (S6.out.put 0 (.int .i64 u))
      simp only [List.set_cons_zero, List.set_cons_succ] at S7
      go_wp2_with (refine wpList_store_own rfl 32 (.tmp 4) (.tmp 39) rfl w.heap.size 0 [.int .i64 (u), .int .i64 (wd), .int .i64 (wd), .bool ln] rfl rfl w.heap.size 32 4 1 1 _ S7.out.res (by simp) comb_size rfl ?_; intro w9 ho9 hg9)
      have q0 := own_at ho9 (j := 0) rfl
      have q1 := own_at ho9 (j := 1) rfl
      have q2 := own_at ho9 (j := 2) rfl
      have q3 := own_at ho9 (j := 3) rfl
      exact bodyPost_ret (v := .agg #[.int .i64 (u), .int .i64 (wd), .int .i64 (wd), .bool ln]) (by simp [results, Tryd.results40, go_sem, q0, q1, q2, q3]) rfl ⟨_, rfl, ⟨⟨(u), (wd), (wd), ln⟩, rfl⟩, (S7.out.cur.kept hg9 (fun q hq => by injection hq with hq; have := S7.out.hg; omega)).mono (by omega), grown_new S7.out.grown hg9 (fun q hq => by injection hq with hq; omega)⟩
    · have d0 : (r == 0) = false := by simpa using e0
      have d0' : decide (r = 0) = false := by simpa using e0
      by_cases e1 : r = 1
      · subst e1
        go_wp2_with fail
        refine (among_at g (b + 10) _ [499, 2001] 499 2001 _ _ S5.out.cur rfl (by decide) (by omega) (by decide) (by decide)).mono ?_
        rintro e w6 ⟨v, rfl, ⟨u, rfl, u1, u2⟩, C6, G6⟩
        have S6 := Lib.hid (S5.out.draw C6 G6)
        clear C6 G6 x0 x1 x2 x3 zx rx zr
        have x0 := own_at S6.out.bx (j := 0) rfl
        have x1 := own_at S6.out.bx (j := 1) rfl
        have x2 := own_at S6.out.bx (j := 2) rfl
        have x3 := own_at S6.out.bx (j := 3) rfl
        have zx : xb < w6.heap.size := World.block_lt_of_cell? w6 _ x0
        have rx := own_at S6.out.res (j := 0) rfl
        have zr : w.heap.size < w6.heap.size := World.block_lt_of_cell? w6 _ rx
        have f6 := S6.out.bx.frozenAt 1
        have S7 := Lib.hid (S6.out.put 1 (.int .i64 u))
        simp only [List.set_cons_zero, List.set_cons_succ] at S7
        go_wp2_with (refine wpList_store_own rfl 32 (.tmp 4) (.tmp 39) rfl w.heap.size 0 [.int .i64 (id), .int .i64 (u), .int .i64 (wd), .bool ln] rfl rfl w.heap.size 32 4 1 1 _ S7.out.res (by simp) comb_size rfl ?_; intro w9 ho9 hg9)
        have q0 := own_at ho9 (j := 0) rfl
        have q1 := own_at ho9 (j := 1) rfl
        have q2 := own_at ho9 (j := 2) rfl
        have q3 := own_at ho9 (j := 3) rfl
        exact bodyPost_ret (v := .agg #[.int .i64 (id), .int .i64 (u), .int .i64 (wd), .bool ln]) (by simp [results, Tryd.results40, go_sem, q0, q1, q2, q3]) rfl ⟨_, rfl, ⟨⟨(id), (u), (wd), ln⟩, rfl⟩, (S7.out.cur.kept hg9 (fun q hq => by injection hq with hq; have := S7.out.hg; omega)).mono (by omega), grown_new S7.out.grown hg9 (fun q hq => by injection hq with hq; omega)⟩
      · have d1 : (r == 1) = false := by simpa using e1
        have d1' : decide (r = 1) = false := by simpa using e1
        by_cases e2 : r = 2
        · subst e2
          go_wp2_with fail
          refine (among_at g (b + 10) _ [499, 2001] 499 2001 _ _ S5.out.cur rfl (by decide) (by omega) (by decide) (by decide)).mono ?_
          rintro e w6 ⟨v, rfl, ⟨u, rfl, u1, u2⟩, C6, G6⟩
          have S6 := Lib.hid (S5.out.draw C6 G6)
          clear C6 G6 x0 x1 x2 x3 zx rx zr
          have x0 := own_at S6.out.bx (j := 0) rfl
          have x1 := own_at S6.out.bx (j := 1) rfl
          have x2 := own_at S6.out.bx (j := 2) rfl
          have x3 := own_at S6.out.bx (j := 3) rfl
          have zx : xb < w6.heap.size := World.block_lt_of_cell? w6 _ x0
          have rx := own_at S6.out.res (j := 0) rfl
          have zr : w.heap.size < w6.heap.size := World.block_lt_of_cell? w6 _ rx
          have f6 := S6.out.bx.frozenAt 2
          have S7 := Lib.hid (S6.out.put 2 (.int .i64 u))
          simp only [List.set_cons_zero, List.set_cons_succ] at S7
          go_wp2_with (refine wpList_store_own rfl 32 (.tmp 4) (.tmp 39) rfl w.heap.size 0 [.int .i64 (id), .int .i64 (wd), .int .i64 (u), .bool ln] rfl rfl w.heap.size 32 4 1 1 _ S7.out.res (by simp) comb_size rfl ?_; intro w9 ho9 hg9)
          have q0 := own_at ho9 (j := 0) rfl
          have q1 := own_at ho9 (j := 1) rfl
          have q2 := own_at ho9 (j := 2) rfl
          have q3 := own_at ho9 (j := 3) rfl
          exact bodyPost_ret (v := .agg #[.int .i64 (id), .int .i64 (wd), .int .i64 (u), .bool ln]) (by simp [results, Tryd.results40, go_sem, q0, q1, q2, q3]) rfl ⟨_, rfl, ⟨⟨(id), (wd), (u), ln⟩, rfl⟩, (S7.out.cur.kept hg9 (fun q hq => by injection hq with hq; have := S7.out.hg; omega)).mono (by omega), grown_new S7.out.grown hg9 (fun q hq => by injection hq with hq; omega)⟩
        · have d2 : (r == 2) = false := by simpa using e2
          have d2' : decide (r = 2) = false := by simpa using e2
          go_wp2_with (refine wpList_store_own rfl 32 (.tmp 4) (.tmp 39) rfl w.heap.size 0 [.int .i64 (id), .int .i64 (wd), .int .i64 (wd), .bool ln] rfl rfl w.heap.size 32 4 1 1 _ S5.out.res (by simp) comb_size rfl ?_; intro w9 ho9 hg9)
          have q0 := own_at ho9 (j := 0) rfl
          have q1 := own_at ho9 (j := 1) rfl
          have q2 := own_at ho9 (j := 2) rfl
          have q3 := own_at ho9 (j := 3) rfl
          exact bodyPost_ret (v := .agg #[.int .i64 (id), .int .i64 (wd), .int .i64 (wd), .bool ln]) (by simp [results, Tryd.results40, go_sem, q0, q1, q2, q3]) rfl ⟨_, rfl, ⟨⟨(id), (wd), (wd), ln⟩, rfl⟩, (S5.out.cur.kept hg9 (fun q hq => by injection hq with hq; have := S5.out.hg; omega)).mono (by omega), grown_new S5.out.grown hg9 (fun q hq => by injection hq with hq; omega)⟩
end Go.Proofs.YtoafaejhabjlnaaDoor
