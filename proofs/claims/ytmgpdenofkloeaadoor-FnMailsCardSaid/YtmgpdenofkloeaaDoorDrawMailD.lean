/- The draws of the statements on routes (made by wip/drawmail.py). -/
import Derived.Test.YtmgpdenofkloeaaDoorDrawMails
namespace Go.Proofs.YtmgpdenofkloeaaDoor
open Go.RowKit
set_option linter.unusedVariables false
set_option linter.unusedSimpArgs false
attribute [local go_sem] ExtOf.cell

/-- What is drawn of mails: a list. -/
def DrawnL (B : Option Addr) (m mc : Nat) (w' : World) : Prop := ∃ xs : List Mail, m ≤ mc ∧ MailL w' B m xs
theorem DrawnL.of {w0 w : World} {g b : Nat} {A : Option Addr} {n c : Nat} {xs : List Mail} (h : DSt w0 g b 36 4 A n c (xs.flatMap Mail.cs) w) (hx : ∀ x ∈ xs, MailSm x) (hn : n ≤ 40) : DrawnL A n c w :=
  ⟨xs, own_le h.row, by have := h.row.1; rw [flat_length Mail.cs 4 Mail.len] at this; omega, by omega, fun x hm => (hx x hm).wf, Rd.own h.row⟩
theorem MailL.drawn {w0 w : World} {g b : Nat} {A : Option Addr} {n c : Nat} {xs : List Mail} (h : DSt w0 g b 36 4 A n c (xs.flatMap Mail.cs) w) (hx : ∀ x ∈ xs, MailSm x) (hn : n ≤ 40) : MailL w A n xs :=
  ⟨by have := h.row.1; rw [flat_length Mail.cs 4 Mail.len] at this; omega, by omega, fun x hm => (hx x hm).wf, Rd.own h.row⟩
set_option maxHeartbeats 1000000 in
theorem DrawLatestLeave_any (A : Option Addr) (n c : Nat) (l : List Int) (w : World) (h : CodeOk w A n l) :
    Calls Tryd.prog 5 #[.slice A n c] w fun e w' => ∃ B m mc a1 a2 a3, e = .returned (.tuple #[.slice B m mc, .int .i64 a1, .int .i64 a2, .int .i64 a3]) ∧ DrawnL B m mc w' ∧ Ext w w' := by
  have K := Lib.hid (h.cur c)
  go_enter Tryd.func5, Tryd.ntmps5
  go_wp2_with fail
  refine (timetable_any w.heap.size 0 _ K.out (by omega)).mono ?_; rintro e w1 ⟨v, rfl, ⟨L, m, mc, rfl, hm40, hst⟩, C1, G1⟩; obtain ⟨xs, hst2, hxs⟩ := MSt.st hst; have N1 := Lib.hid hst2; have HX := Lib.hid hxs; have EG := Lib.hid G1; clear hst hst2 hxs C1 G1
  go_wp2_with fail
  refine (among_at _ _ _ [0, 1, 2, 3, 10] (0) 10 _ _ N1.out.cur rfl (by decide) (by omega) (by decide) (by decide)).mono ?_
  rintro e w2 ⟨v, rfl, ⟨u0, rfl, x2, y2⟩, C2, G2⟩
  have N2 := Lib.hid (N1.out.draw C2 G2)
  go_wp2_with fail
  refine (among_at _ _ _ [0, 1, 2, 3, -1] (-1) 3 _ _ N2.out.cur rfl (by decide) (by omega) (by decide) (by decide)).mono ?_
  rintro e w3 ⟨v, rfl, ⟨u1, rfl, x3, y3⟩, C3, G3⟩
  have N3 := Lib.hid (N2.out.draw C3 G3)
  go_wp2_with fail
  refine (among_at _ _ _ [0, 20, 40, 60, 9999, 10000] (0) 10000 _ _ N3.out.cur rfl (by decide) (by omega) (by decide) (by decide)).mono ?_
  rintro e w4 ⟨v, rfl, ⟨u2, rfl, x4, y4⟩, C4, G4⟩
  have N4 := Lib.hid (N3.out.draw C4 G4)
  have EF := Lib.hid (ext_of_cur (grown_trans EG.out (grown_trans G2 (grown_trans G3 G4))))
  go_wp2
  exact bodyPost_ret (v := .tuple #[.slice L m mc, .int .i64 u0, .int .i64 u1, .int .i64 u2]) (by simp [results, Tryd.results5, go_sem]) rfl ⟨L, m, mc, u0, u1, u2, rfl, DrawnL.of N4.out HX.out hm40, EF.out⟩
set_option maxHeartbeats 1000000 in
theorem DrawReachedBy_any (A : Option Addr) (n c : Nat) (l : List Int) (w : World) (h : CodeOk w A n l) :
    Calls Tryd.prog 13 #[.slice A n c] w fun e w' => ∃ B m mc a1 a2 a3, e = .returned (.tuple #[.slice B m mc, .int .i64 a1, .int .i64 a2, .int .i64 a3]) ∧ DrawnL B m mc w' ∧ Ext w w' := by
  have K := Lib.hid (h.cur c)
  go_enter Tryd.func13, Tryd.ntmps13
  go_wp2_with fail
  refine (timetable_any w.heap.size 0 _ K.out (by omega)).mono ?_; rintro e w1 ⟨v, rfl, ⟨L, m, mc, rfl, hm40, hst⟩, C1, G1⟩; obtain ⟨xs, hst2, hxs⟩ := MSt.st hst; have N1 := Lib.hid hst2; have HX := Lib.hid hxs; have EG := Lib.hid G1; clear hst hst2 hxs C1 G1
  go_wp2_with fail
  refine (among_at _ _ _ [0, 1, 2, 3, 10] (0) 10 _ _ N1.out.cur rfl (by decide) (by omega) (by decide) (by decide)).mono ?_
  rintro e w2 ⟨v, rfl, ⟨u0, rfl, x2, y2⟩, C2, G2⟩
  have N2 := Lib.hid (N1.out.draw C2 G2)
  go_wp2_with fail
  refine (among_at _ _ _ [0, 0, 5, 10, 11, 10000] (0) 10000 _ _ N2.out.cur rfl (by decide) (by omega) (by decide) (by decide)).mono ?_
  rintro e w3 ⟨v, rfl, ⟨u1, rfl, x3, y3⟩, C3, G3⟩
  have N3 := Lib.hid (N2.out.draw C3 G3)
  go_wp2_with fail
  refine (among_at _ _ _ [10, 20, 40, 60, 9999, 10000] (10) 10000 _ _ N3.out.cur rfl (by decide) (by omega) (by decide) (by decide)).mono ?_
  rintro e w4 ⟨v, rfl, ⟨u2, rfl, x4, y4⟩, C4, G4⟩
  have N4 := Lib.hid (N3.out.draw C4 G4)
  have EF := Lib.hid (ext_of_cur (grown_trans EG.out (grown_trans G2 (grown_trans G3 G4))))
  go_wp2
  exact bodyPost_ret (v := .tuple #[.slice L m mc, .int .i64 u0, .int .i64 u1, .int .i64 u2]) (by simp [results, Tryd.results13, go_sem]) rfl ⟨L, m, mc, u0, u1, u2, rfl, DrawnL.of N4.out HX.out hm40, EF.out⟩
set_option maxHeartbeats 1000000 in
theorem DrawMissedMails_any (A : Option Addr) (n c : Nat) (l : List Int) (w : World) (h : CodeOk w A n l) :
    Calls Tryd.prog 9 #[.slice A n c] w fun e w' => ∃ B m mc a1 a2, e = .returned (.tuple #[.slice B m mc, .int .i64 a1, .int .i64 a2]) ∧ DrawnL B m mc w' ∧ Ext w w' := by
  have K := Lib.hid (h.cur c)
  go_enter Tryd.func9, Tryd.ntmps9
  go_wp2_with fail
  refine (timetable_any w.heap.size 0 _ K.out (by omega)).mono ?_; rintro e w1 ⟨v, rfl, ⟨L, m, mc, rfl, hm40, hst⟩, C1, G1⟩; obtain ⟨xs, hst2, hxs⟩ := MSt.st hst; have N1 := Lib.hid hst2; have HX := Lib.hid hxs; have EG := Lib.hid G1; clear hst hst2 hxs C1 G1
  go_wp2_with fail
  refine (among_at _ _ _ [0, 1, 2, 3, 10] (0) 10 _ _ N1.out.cur rfl (by decide) (by omega) (by decide) (by decide)).mono ?_
  rintro e w2 ⟨v, rfl, ⟨u0, rfl, x2, y2⟩, C2, G2⟩
  have N2 := Lib.hid (N1.out.draw C2 G2)
  go_wp2_with fail
  refine (among_at _ _ _ [0, 0, 5, 10, 11, 10000] (0) 10000 _ _ N2.out.cur rfl (by decide) (by omega) (by decide) (by decide)).mono ?_
  rintro e w3 ⟨v, rfl, ⟨u1, rfl, x3, y3⟩, C3, G3⟩
  have N3 := Lib.hid (N2.out.draw C3 G3)
  have EF := Lib.hid (ext_of_cur (grown_trans EG.out (grown_trans G2 G3)))
  go_wp2
  exact bodyPost_ret (v := .tuple #[.slice L m mc, .int .i64 u0, .int .i64 u1]) (by simp [results, Tryd.results9, go_sem]) rfl ⟨L, m, mc, u0, u1, rfl, DrawnL.of N3.out HX.out hm40, EF.out⟩
set_option maxRecDepth 100000 in
set_option maxHeartbeats 2000000 in
theorem DrawMailText_any (A : Option Addr) (n c : Nat) (l : List Int) (w : World) (h : CodeOk w A n l) :
    Calls Tryd.prog 17 #[.slice A n c] w fun e w' => ∃ r : Mail, e = .returned (.agg #[.int .i64 r.Leave, .int .i64 r.From, .int .i64 r.To, .int .i64 r.Arrive]) ∧ MailSm r ∧ Ext w w' := by
  have OZ := Lib.hid (own_block w 36 [.int .i64 0, .int .i64 0, .int .i64 0, .int .i64 0])
  have E0 := (Ext.refl w).alloc (.cells #[.int .i64 0, .int .i64 0, .int .i64 0, .int .i64 0] 36)
  have K := Lib.hid ((h.ext E0).cur c)
  simp only [World.size_alloc] at K
  have nz : Value.ownBlock (.slice (some ⟨w.heap.size, 0, none⟩) 1 1) = none ∨ Value.ownBlock (.slice (some ⟨w.heap.size, 0, none⟩) 1 1) ≠ some (w.heap.size + 1) := Or.inr (by simp [Value.ownBlock])
  go_enter Tryd.func17, Tryd.ntmps17
  go_wp2_with fail
  refine (mail_any _ _ _ K.out (by omega)).mono ?_
  rintro e w2 ⟨v, rfl, ⟨r, rfl, hr⟩, C2, G2⟩
  have OZ5 := Lib.hid (((Ext.refl _).alloc _).own OZ.out |>.kept G2 nz)
  have G := Lib.hid G2
  clear G2 C2
  go_wp2_with (refine wpList_store_own rfl 36 (.tmp 2) (.tmp 8) rfl w.heap.size 0 [.int .i64 r.Leave, .int .i64 r.From, .int .i64 r.To, .int .i64 r.Arrive] rfl rfl w.heap.size 36 4 1 1 _ OZ5.out (by simp) sizeMail rfl ?_; intro w9 ho9 hg9)
  have r0 := own_at ho9 (j := 0) rfl
  have r1 := own_at ho9 (j := 1) rfl
  have r2 := own_at ho9 (j := 2) rfl
  have r3 := own_at ho9 (j := 3) rfl
  have EF := Lib.hid ((E0.trans (ext_of_cur (w := w.alloc (.cells #[.int .i64 0, .int .i64 0, .int .i64 0, .int .i64 0] 36)) (by rw [World.size_alloc]; exact G.out))).row hg9 (Nat.le_refl _))
  exact bodyPost_ret (v := .agg #[.int .i64 r.Leave, .int .i64 r.From, .int .i64 r.To, .int .i64 r.Arrive]) (by simp [results, Tryd.results17, go_sem, r0, r1, r2, r3]) rfl ⟨r, rfl, hr, EF.out⟩
end Go.Proofs.YtmgpdenofkloeaaDoor
