/- Valid timetables (made by wip/mailsv.py). -/
import Derived.Test.YtmgpdenofkloeaaDoorMailL
import Derived.Test.YtmgpdenofkloeaaDoorAdj
import Derived.Test.YtmgpdenofkloeaaDoorCmp
import Derived.Test.YtmgpdenofkloeaaDoorTail
import Derived.Test.YtmgpdenofkloeaaDoorStructs
namespace Go.Proofs.YtmgpdenofkloeaaDoor
open Go.RowKit
set_option linter.unusedVariables false
set_option linter.unusedSimpArgs false
attribute [local go_sem] ExtOf.cell

def MailGood (x : Mail) : Bool := mlOk x.Leave x.From x.To x.Arrive
def MailP (q : Option Mail) (x : Mail) : Bool := MailGood x && (match q with
  | none => true
  | some y => decide (orI [cmpI y.Leave x.Leave, cmpI y.From x.From, cmpI y.To x.To, cmpI y.Arrive x.Arrive] < 0))
def MailsOk (xs : List Mail) : Bool := adj MailP none xs && decide (xs.length ≤ 20)
theorem MailsOk_bad {xs : List Mail} {k : Nat} {x : Mail} (hx : xs[k]? = some x) (hp : MailP (before xs k) x = false) : MailsOk xs = false := by
  simp [MailsOk, adj_bad hx hp]
theorem MailsOk_end {xs : List Mail} {n : Nat} (hn : xs.length = n) (h : adjTo MailP xs n) : MailsOk xs = decide ((n : Int) ≤ 20) := by
  subst hn
  simp only [MailsOk, adj_end h, Bool.true_and]
  rw [Bool.eq_iff_iff]; simp; omega
theorem MailsOk_good {xs : List Mail} (h : MailsOk xs = true) : ∀ x ∈ xs, MailGood x = true := by
  simp only [MailsOk, Bool.and_eq_true] at h
  exact adj_all (fun q x hp => by simp only [MailP, Bool.and_eq_true] at hp; exact hp.1) h.1
theorem MailsOk_len {xs : List Mail} (h : MailsOk xs = true) : xs.length ≤ 20 := by
  simp only [MailsOk, Bool.and_eq_true, decide_eq_true_eq] at h
  exact h.2
theorem MailP_at {xs : List Mail} {k j : Nat} {y : Mail} (h : adjTo MailP xs k) (hj : j < k) (hy : xs[j]? = some y) : MailGood y = true := by
  have hm : y ∈ xs.take k := by
    rw [List.mem_iff_getElem?]; exact ⟨j, by rw [List.getElem?_take, if_pos hj, hy]⟩
  exact adj_all (p := MailP) (fun q x hp => by simp only [MailP, Bool.and_eq_true] at hp; exact hp.1) h y hm


def mailLess (y x : Mail) : Bool := decide (orI [cmpI y.Leave x.Leave, cmpI y.From x.From, cmpI y.To x.To, cmpI y.Arrive x.Arrive] < 0)
theorem MailP_pos {xs : List Mail} {k : Nat} {x y : Mail} (h : 0 < k) (hy : xs[k - 1]? = some y) : MailP (before xs k) x = (MailGood x && mailLess y x) := by
  rw [before_pos h hy]; rfl
theorem MailWf_arrive {x : Mail} (h : x.Wf) : -9223372036854775808 ≤ x.Arrive ∧ x.Arrive ≤ 9223372036854775807 := bounds_i64 h.2.2.2


set_option maxRecDepth 100000 in
set_option maxHeartbeats 1000000 in
theorem isTimetable_any (A : Option Addr) (n c : Nat) (xs : List Mail) (w : World) (h : MailL w A n xs) :
    Calls Tryd.prog 22 #[.slice A n c] w fun e w' => e = .returned (.bool (MailsOk xs)) ∧ Ext w w' := by
  have hsm := h.small
  have HW := Lib.hid h.wf
  go_enter Tryd.func22, Tryd.ntmps22
  go_wp2
  go_loopw [8] (fun i wr => ∃ k : Nat, k ≤ n ∧ i = .int .i64 k ∧ adjTo MailP xs k ∧ Ext w wr) (fun i _ => n - (intOf i).toNat)
  case atStart => exact ⟨0, Nat.zero_le _, rfl, adjTo_zero _ _, Ext.refl _⟩
  case round =>
    obtain ⟨k, hk, rfl, ha, he⟩ := hrel
    have HA := Lib.hid ha
    clear ha
    by_cases hlt : k < n
    · obtain ⟨b, off, x, rfl, hb, hx, g0, g1, g2, g3⟩ := (h.ext he).at_ hlt
      obtain ⟨ha1, ha2⟩ := MailWf_arrive (HW.out x (List.mem_of_getElem? hx.out))
      cases hs : mlOk x.Leave x.From x.To x.Arrive
      · have hbad := Lib.hid (MailsOk_bad hx.out (by simp [MailP, MailGood, hs]))
        go_wp2_with (go_at_call 33; refine (isMail_any _ _ _ _ _ (by omega) (by omega)).mono ?_; rintro e wa ⟨rfl, he1⟩; have hc1 := he1.cells)
        go_ret
        exact ⟨ret_bool hbad.out.symm, (he.alloc _).trans he1⟩
      · rcases Nat.eq_zero_or_pos k with hk0 | hpos
        · have hgood := Lib.hid (adjTo_succ HA.out hx.out (by simp [MailP, MailGood, hs, hk0, before_zero]))
          have hd : decide ((k : Int) = 0) = true := by simp; omega
          have hd2 : ((k : Int) == 0) = true := by simp; omega
          have hd3 : (k == 0) = true := by simp; omega
          clear hk0
          go_wp2_with (go_at_call 33; refine (isMail_any _ _ _ _ _ (by omega) (by omega)).mono ?_; rintro e wa ⟨rfl, he1⟩; have hc1 := he1.cells)
          go_roundw
          case rel => exact ⟨k + 1, by omega, by go_num, hgood.out, (he.alloc _).trans he1⟩
          case measure => simp [intOf]; omega
        · obtain ⟨b', off', y, eA, hb', hy, q0, q1, q2, q3⟩ := (h.ext he).at_ (show k - 1 < n by omega)
          injection eA with eA
          injection eA with e1 e2
          subst e1; subst e2
          have hd : decide ((k : Int) = 0) = false := by simp; omega
          have hd2 : ((k : Int) == 0) = false := by simp; omega
          have hP := MailP_pos (x := x) hpos hy.out
          rw [mailLess, show MailGood x = true from hs, Bool.true_and] at hP
          generalize hor : orI [cmpI y.Leave x.Leave, cmpI y.From x.From, cmpI y.To x.To, cmpI y.Arrive x.Arrive] = od at hP
          have HO := Lib.hid hor
          clear hor
          by_cases ho : od < 0
          · have hgood := Lib.hid (adjTo_succ HA.out hx.out (by rw [hP]; simpa using ho))
            have hd3 : decide (0 ≤ od) = false := by simp; omega
            clear hP
            go_wp2_with (go_at_call 33; refine (isMail_any _ _ _ _ _ (by omega) (by omega)).mono ?_; rintro e wa ⟨rfl, he1⟩; have hc1 := he1.cells; have hz1 : wr.heap.size < wa.heap.size := (by have h := he1.size; (try simp only [World.size_alloc] at h); omega))
            (refine wp_region_ext_tail 20 (by kernel_rfl) (by kernel_rfl) ?_; simp only [List.take_succ_cons, List.take_zero, List.drop_succ_cons, List.drop_zero]; (repeat (go_big_quiet_step (((go_at_call 41; exact ext_call_same (Compare_any _ _ _)))))); refine wpQuiet_nil ?_; rintro wq ⟨⟨_, heq⟩, rfl⟩; (try dsimp only))
            go_wp2_with (go_at_call 40; refine (Or4_any _ _ _ _ _ _).mono ?_; rintro e wc ⟨hev, rfl⟩; rw [HO.out] at hev; subst hev)
            go_roundw
            case rel => exact ⟨k + 1, by omega, by go_num, hgood.out, ((((he.alloc _).trans he1).alloc _).trans heq).alloc _⟩
            case measure => simp [intOf]; omega
          · have hbad := Lib.hid (MailsOk_bad hx.out (by rw [hP]; simpa using ho))
            have hd3 : decide (0 ≤ od) = true := by simp; omega
            clear hP
            go_wp2_with (go_at_call 33; refine (isMail_any _ _ _ _ _ (by omega) (by omega)).mono ?_; rintro e wa ⟨rfl, he1⟩; have hc1 := he1.cells; have hz1 : wr.heap.size < wa.heap.size := (by have h := he1.size; (try simp only [World.size_alloc] at h); omega))
            (refine wp_region_ext_tail 20 (by kernel_rfl) (by kernel_rfl) ?_; simp only [List.take_succ_cons, List.take_zero, List.drop_succ_cons, List.drop_zero]; (repeat (go_big_quiet_step (((go_at_call 41; exact ext_call_same (Compare_any _ _ _)))))); refine wpQuiet_nil ?_; rintro wq ⟨⟨_, heq⟩, rfl⟩; (try dsimp only))
            go_wp2_with (go_at_call 40; refine (Or4_any _ _ _ _ _ _).mono ?_; rintro e wc ⟨hev, rfl⟩; rw [HO.out] at hev; subst hev)
            go_ret
            exact ⟨ret_bool hbad.out.symm, ((((he.alloc _).trans he1).alloc _).trans heq).alloc _⟩
    · obtain rfl : n = k := by omega
      have hend := Lib.hid (MailsOk_end h.len HA.out)
      go_wp2
      go_ret
      exact ⟨ret_bool hend.out.symm, he⟩

end Go.Proofs.YtmgpdenofkloeaaDoor
