/- The draws of the statements on routes (made by wip/drawmail.py). -/
import Derived.Test.YtmgpdenofkloeaaDrawMails
import Derived.Test.YtmgpdenofkloeaaDrawRoute
namespace Go.Proofs.Ytmgpdenofkloeaa
open Go.RowKit
set_option linter.unusedVariables false
set_option linter.unusedSimpArgs false
attribute [local go_sem] ExtOf.cell

/-- What is drawn of mails: a list. -/
def DrawnL (B : Option Addr) (m mc : Nat) (w' : World) : Prop := ∃ xs : List Mail, m ≤ mc ∧ MailL w' B m xs
theorem DrawnL.of {w0 w : World} {g b : Nat} {A : Option Addr} {n c : Nat} {xs : List Mail} (h : DSt w0 g b 44 4 A n c (xs.flatMap Mail.cs) w) (hx : ∀ x ∈ xs, MailSm x) (hn : n ≤ 40) : DrawnL A n c w :=
  ⟨xs, own_le h.row, by have := h.row.1; rw [flat_length Mail.cs 4 Mail.len] at this; omega, by omega, fun x hm => (hx x hm).wf, Rd.own h.row⟩
theorem MailL.drawn {w0 w : World} {g b : Nat} {A : Option Addr} {n c : Nat} {xs : List Mail} (h : DSt w0 g b 44 4 A n c (xs.flatMap Mail.cs) w) (hx : ∀ x ∈ xs, MailSm x) (hn : n ≤ 40) : MailL w A n xs :=
  ⟨by have := h.row.1; rw [flat_length Mail.cs 4 Mail.len] at this; omega, by omega, fun x hm => (hx x hm).wf, Rd.own h.row⟩
set_option maxHeartbeats 1000000 in
theorem DrawEarliestAt_any (A : Option Addr) (n c : Nat) (l : List Int) (w : World) (h : CodeOk w A n l) :
    Calls Try.prog 22 #[.slice A n c] w fun e w' => ∃ B m mc a1 a2 a3, e = .returned (.tuple #[.slice B m mc, .int .i64 a1, .int .i64 a2, .int .i64 a3]) ∧ DrawnL B m mc w' ∧ Ext w w' := by
  have K := Lib.hid (h.cur c)
  go_enter Try.func22, Try.ntmps22
  go_wp2_with fail
  refine (timetable_any w.heap.size 0 _ K.out (by omega)).mono ?_; rintro e w1 ⟨v, rfl, ⟨L, m, mc, rfl, hm40, hst⟩, C1, G1⟩; obtain ⟨xs, hst2, hxs⟩ := MSt.st hst; have N1 := Lib.hid hst2; have HX := Lib.hid hxs; have EG := Lib.hid G1; clear hst hst2 hxs C1 G1
  go_wp2_with fail
  refine (among_at _ _ _ [0, 1, 2, 3, 9, 10] (0) 10 _ _ N1.out.cur rfl (by decide) (by omega) (by decide) (by decide)).mono ?_
  rintro e w2 ⟨v, rfl, ⟨u0, rfl, x2, y2⟩, C2, G2⟩
  have N2 := Lib.hid (N1.out.draw C2 G2)
  go_wp2_with fail
  refine (among_at _ _ _ [0, 0, 5, 10, 11, 9999, 10000] (0) 10000 _ _ N2.out.cur rfl (by decide) (by omega) (by decide) (by decide)).mono ?_
  rintro e w3 ⟨v, rfl, ⟨u1, rfl, x3, y3⟩, C3, G3⟩
  have N3 := Lib.hid (N2.out.draw C3 G3)
  go_wp2_with fail
  refine (among_at _ _ _ [0, 1, 2, 3, 9, -1] (-1) 9 _ _ N3.out.cur rfl (by decide) (by omega) (by decide) (by decide)).mono ?_
  rintro e w4 ⟨v, rfl, ⟨u2, rfl, x4, y4⟩, C4, G4⟩
  have N4 := Lib.hid (N3.out.draw C4 G4)
  have EF := Lib.hid (ext_of_cur (grown_trans EG.out (grown_trans G2 (grown_trans G3 G4))))
  go_wp2
  exact bodyPost_ret (v := .tuple #[.slice L m mc, .int .i64 u0, .int .i64 u1, .int .i64 u2]) (by simp [results, Try.results22, go_sem]) rfl ⟨L, m, mc, u0, u1, u2, rfl, DrawnL.of N4.out HX.out hm40, EF.out⟩
set_option maxHeartbeats 1000000 in
theorem DrawBestRoute_any (A : Option Addr) (n c : Nat) (l : List Int) (w : World) (h : CodeOk w A n l) :
    Calls Try.prog 5 #[.slice A n c] w fun e w' => ∃ B m mc a1 a2 a3, e = .returned (.tuple #[.slice B m mc, .int .i64 a1, .int .i64 a2, .int .i64 a3]) ∧ DrawnL B m mc w' ∧ Ext w w' := by
  go_enter Try.func5, Try.ntmps5
  go_wp2_with fail
  refine (DrawEarliestAt_any A n c l _ h).mono ?_
  rintro e w1 ⟨B, m, mc, a1, a2, a3, rfl, hd, he⟩
  go_wp2
  exact bodyPost_ret (v := .tuple #[.slice B m mc, .int .i64 a1, .int .i64 a2, .int .i64 a3]) (by simp [results, Try.results5, go_sem]) rfl ⟨B, m, mc, a1, a2, a3, rfl, hd, he⟩
set_option maxHeartbeats 2000000 in
theorem DrawIsRoute_any (A : Option Addr) (n c : Nat) (l : List Int) (w : World) (h : CodeOk w A n l) :
    Calls Try.prog 16 #[.slice A n c] w fun e w' => ∃ B m mc a1 a2 C rn rc, e = .returned (.tuple #[.slice B m mc, .int .i64 a1, .int .i64 a2, .slice C rn rc]) ∧ DrawnL B m mc w' ∧ (∃ r : List Int, rn ≤ 100 ∧ Rd w' C rn 1 (ints r)) ∧ Ext w w' := by
  have K := Lib.hid (h.cur c)
  go_enter Try.func16, Try.ntmps16
  go_wp2_with fail
  refine (timetable_any w.heap.size 0 _ K.out (by omega)).mono ?_; rintro e w1 ⟨v, rfl, ⟨L, m, mc, rfl, hm40, hst⟩, C1, G1⟩; obtain ⟨xs, hst2, hxs⟩ := MSt.st hst; have N1 := Lib.hid hst2; have HX := Lib.hid hxs; have EG := Lib.hid G1; clear hst hst2 hxs C1 G1
  go_wp2_with fail
  refine (among_at _ _ _ [0, 1, 2, 3, 9, 10] 0 10 _ _ N1.out.cur rfl (by decide) (by omega) (by decide) (by decide)).mono ?_
  rintro e w2 ⟨v, rfl, ⟨f, rfl, f1, f2⟩, C2, G2⟩
  have N2 := Lib.hid (N1.out.draw C2 G2)
  go_wp2_with fail
  refine (among_at _ _ _ [0, 0, 5, 10, 11, 9999, 10000] 0 10000 _ _ N2.out.cur rfl (by decide) (by omega) (by decide) (by decide)).mono ?_
  rintro e w3 ⟨v, rfl, ⟨t, rfl, t1, t2⟩, C3, G3⟩
  have N3 := Lib.hid (N2.out.draw C3 G3)
  have D3 := Lib.hid (DrawnL.of N3.out HX.out hm40)
  have ML := Lib.hid (MailL.drawn N3.out HX.out hm40)
  have EG3 := Lib.hid (grown_trans EG.out (grown_trans G2 G3))
  go_wp2_with fail
  refine (routeOf_any w.heap.size _ L m mc xs f t _ N3.out.cur (by omega) ML.out hm40 (DSt.off N3.out)).mono ?_
  rintro e w4 ⟨v, rfl, ⟨C, rn, rc, r, rfl, hrn, hr⟩, C4, G4⟩
  have N4 := Lib.hid (N3.out.draw C4 G4)
  have EF := Lib.hid (ext_of_cur (grown_trans EG3.out G4))
  go_wp2
  exact bodyPost_ret (v := .tuple #[.slice L m mc, .int .i64 f, .int .i64 t, .slice C rn rc]) (by simp [results, Try.results16, go_sem]) rfl ⟨L, m, mc, f, t, C, rn, rc, rfl, DrawnL.of N4.out HX.out hm40, ⟨r, by omega, hr⟩, EF.out⟩
end Go.Proofs.Ytmgpdenofkloeaa
