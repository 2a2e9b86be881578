/- NextKind: the program's and the reference's entries. -/
import Derived.Test.YtphalkeokpnpfaaFirstK
namespace Go.Proofs.Ytphalkeokpnpfaa
open Go.RowKit
set_option linter.unusedVariables false
set_option linter.unusedSimpArgs false
attribute [local go_sem] ExtOf.cell

def nextK (ss : List Int) (bs : List Ban) (ks : List Int) : Option (List Int) := if compP ss bs ks then firstFrom ss bs (numOf ss ks + 1).toNat else none
theorem nextK_yes {ss : List Int} {bs : List Ban} {ks : List Int} (h : compP ss bs ks = true) : nextK ss bs ks = firstFrom ss bs (numOf ss ks + 1).toNat := by unfold nextK; rw [if_pos h]
theorem nextK_no {ss : List Int} {bs : List Ban} {ks : List Int} (h : compP ss bs ks = false) : nextK ss bs ks = none := by unfold nextK; rw [h]; rfl
theorem nextK_len (ss : List Int) (bs : List Ban) (ks : List Int) : ((nextK ss bs ks).getD []).length ≤ 10000 := by
  cases h : compP ss bs ks
  · rw [nextK_no h]; exact Nat.zero_le _
  · have h1 : TabOk ss bs = true := by simp only [compP, Bool.and_eq_true] at h; exact h.1
    obtain ⟨⟨_, t2⟩, _⟩ := TabOk_all h1
    rw [nextK_yes h]; have := firstFrom_len ss bs (numOf ss ks + 1).toNat; omega
theorem lexI_drop {l m : List Int} {k : Nat} {a b : Int} (hl : l[k]? = some a) (hm : m[k]? = some b) : lexI (l.drop k) (m.drop k) = if cmpI a b = 0 then lexI (l.drop (k + 1)) (m.drop (k + 1)) else cmpI a b := by
  obtain ⟨h1, rfl⟩ := List.getElem?_eq_some_iff.1 hl
  obtain ⟨h2, rfl⟩ := List.getElem?_eq_some_iff.1 hm
  rw [List.drop_eq_getElem_cons h1, List.drop_eq_getElem_cons h2]
  rfl
theorem KindOk_get {ss ks : List Int} (h : KindOk ss ks = true) {k : Nat} {s v : Int} (h1 : ss[k]? = some s) (h2 : ks[k]? = some v) : 0 ≤ v ∧ v ≤ s - 1 := by
  simp only [KindOk, Bool.and_eq_true, decide_eq_true_eq, List.all_eq_true] at h
  have := h.2 _ (List.mem_of_getElem? (zip_get h2 h1))
  simp only [zbad, Bool.not_not] at this
  exact inB_iff.1 this
theorem KindOk_len' {ss ks : List Int} (h : KindOk ss ks = true) : ks.length = ss.length := by
  simp only [KindOk, Bool.and_eq_true, decide_eq_true_eq] at h; exact h.1
theorem numOf_take {ss ks : List Int} (h : KindOk ss ks = true) {k : Nat} {s v : Int} (h1 : ss[k]? = some s) (h2 : ks[k]? = some v) : numOf (ss.take (k + 1)) (ks.take (k + 1)) = numOf (ss.take k) (ks.take k) * s + v := by
  rw [take_snoc h1, take_snoc h2, numOf_snoc (by simp [List.length_take, KindOk_len' h])]
theorem KindOk_take {ss ks : List Int} (h : KindOk ss ks = true) (k : Nat) : KindOk (ss.take k) (ks.take k) = true := by
  have hl := KindOk_len' h
  simp only [KindOk, Bool.and_eq_true, decide_eq_true_eq, List.all_eq_true] at h ⊢
  refine ⟨by simp [List.length_take, hl], fun p hp => h.2 p ?_⟩
  obtain ⟨i, hi⟩ := List.mem_iff_getElem?.1 hp
  rw [List.getElem?_zip_eq_some] at hi
  obtain ⟨h1, h2⟩ := hi
  refine List.mem_iff_getElem?.2 ⟨i, ?_⟩
  rw [List.getElem?_zip_eq_some]
  rw [List.getElem?_take] at h1 h2
  split at h1
  · rename_i hik
    rw [if_pos hik] at h2
    exact ⟨h1, h2⟩
  · cases h1
set_option maxRecDepth 100000 in
set_option maxHeartbeats 1000000 in
theorem l6Number_any (A : Option Addr) (n c : Nat) (B : Option Addr) (m d : Nat) (ss : List Int) (bs : List Ban) (K : Option Addr) (e : Nat) (ks : List Int) (w : World) (h : TabL w A n B m ss bs) (hs : ∀ s ∈ ss, 1 ≤ s ∧ s ≤ 5) (hl : ss.length ≤ 5) (hk : KindOk ss ks = true) (hr : Rd w K n 1 (ints ks)) :
    Calls Try.prog 69 #[.agg #[.slice A n c, .slice B m d], .slice K n e] w fun e w' => e = .returned (.int .i64 (numOf ss ks)) ∧ Ext w w' := by
  have hn := h.sm
  have HN := Lib.hid h.sl
  have HKL := Lib.hid (show ks.length = n by rw [KindOk_len' hk]; exact h.sl)
  have HS := Lib.hid hs
  have HB := Lib.hid (fun k => numOf_bd _ _ (KindOk_take hk k))
  have HA := Lib.hid (allN_take_small hs hl)
  have HT := Lib.hid (show ss.take n = ss ∧ ks.take n = ks from ⟨List.take_of_length_le (Nat.le_of_eq h.sl), List.take_of_length_le (Nat.le_of_eq HKL.out)⟩)
  have HK := Lib.hid hk
  clear hs hl hk
  go_enter Try.func69, Try.ntmps69
  go_wp2
  go_loopw [5, 6] (fun p i wr => ∃ k : Nat, k ≤ n ∧ i = .int .i64 k ∧ p = .int .i64 (numOf (ss.take k) (ks.take k)) ∧ Ext (w.alloc (.cells #[.slice A n c, .slice B m d] 30)) wr) (fun _ i _ => n - (intOf i).toNat)
  case atStart => exact ⟨0, Nat.zero_le _, rfl, rfl, Ext.refl _⟩
  case round =>
    obtain ⟨k, hkn, rfl, rfl, he⟩ := hrel
    have eW := ((Ext.refl w).alloc (.cells #[.slice A n c, .slice B m d] 30)).trans he
    have t0 : wr.cell? ⟨w.heap.size, 0, none⟩ = some (.slice A n c) := he.cell1 (new_cell _ _ _ 0 _ rfl)
    have hz : w.heap.size < wr.heap.size := World.block_lt_of_cell? wr _ t0
    by_cases hlt : k < n
    · obtain ⟨b, off, s, rfl, hb, hx, gs⟩ := (h.sr.ext eW).int hlt
      obtain ⟨b2, off2, v, rfl, hb2, hv, gv⟩ := (hr.ext eW).int hlt
      have hnx := Lib.hid (numOf_take HK.out hx.out hv.out)
      have h1 := HB.out k
      have h2 := HB.out (k + 1)
      have h3 := HA.out (k + 1)
      have h4 := KindOk_get HK.out hx.out hv.out
      have hs5 := HS.out s (List.mem_of_getElem? hx.out)
      rw [hnx.out] at h2
      generalize numOf (ss.take k) (ks.take k) = p at *
      have hps : 0 ≤ p * s := Int.mul_nonneg h1.1 (by omega)
      have w1 : IntKind.i64.wrap (p * s) = p * s := IntWalk.i64_in _ (by omega)
      have w2 : IntKind.i64.wrap (p * s + v) = p * s + v := IntWalk.i64_in _ (by omega)
      clear h1 h2 h3 h4 hs5
      go_wp2
      (refine wp_region_ext_lit (by kernel_rfl) (by kernel_rfl) ?_; (repeat (go_big_quiet_step ((fail)))); refine wpQuiet_nil ?_; rintro wq ⟨⟨_, heq⟩, rfl⟩; (try dsimp only))
      go_wp2
      go_roundw
      case rel => exact ⟨k + 1, by omega, by go_num, by rw [hnx.out], he.trans heq⟩
      case measure => simp [intOf]; omega
    · obtain rfl : k = n := by omega
      rw [HT.out.1, HT.out.2]
      go_wp2
      go_ret
      exact ⟨rfl, eW⟩
set_option maxRecDepth 100000 in
set_option maxHeartbeats 1000000 in
theorem CompareL_any (K : Option Addr) (e : Nat) (ks : List Int) (L : Option Addr) (e' n : Nat) (ls : List Int) (w : World) (hn : n ≤ 1048576) (hk : ks.length = n) (hl : ls.length = n) (hr : Rd w K n 1 (ints ks)) (hr' : Rd w L n 1 (ints ls)) :
    Calls Try.prog 70 #[.slice K n e, .slice L n e'] w fun e w' => e = .returned (.int .i64 (lexI ks ls)) ∧ w = w' := by
  have HK := Lib.hid hk
  have HL := Lib.hid hl
  clear hk hl
  go_enter Try.func70, Try.ntmps70
  go_wp2
  go_loop [11] (fun i => ∃ k : Nat, k ≤ n ∧ i = .int .i64 k ∧ lexI ks ls = lexI (ks.drop k) (ls.drop k)) (fun i => n - (intOf i).toNat)
  case atStart => exact ⟨0, Nat.zero_le _, rfl, rfl⟩
  case round =>
    obtain ⟨k, hkn, rfl, hx⟩ := hrel
    have HX := Lib.hid hx
    clear hx
    by_cases hlt : k < n
    · obtain ⟨b, off, s, rfl, hb, hs, gs⟩ := hr.int hlt
      obtain ⟨b2, off2, v, rfl, hb2, hv, gv⟩ := hr'.int hlt
      have hd := Lib.hid (HX.out.trans (lexI_drop hs.out hv.out))
      have d1 : decide ((n : Int) ≤ k) = false := by simp; omega
      have d2 : decide (n ≤ k) = false := by simp; omega
      have hcb := cmpI_bd s v
      have HC := Lib.hid (Compare_any s v w)
      generalize cmpI s v = cv at *
      by_cases h0 : cv = 0
      · have hd2 := Lib.hid (hd.out.trans (if_pos h0))
        subst h0
        go_wp2_with (go_at_call 94; refine HC.out.mono ?_; rintro e w' ⟨rfl, rfl⟩)
        go_round
        case rel => exact ⟨k + 1, by omega, by go_num, hd2.out⟩
        case measure => simp [intOf]; omega
      · have hd2 := Lib.hid (hd.out.trans (if_neg h0))
        have d3 : decide (cv = 0) = false := by simpa using h0
        have d4 : (cv == 0) = false := by simpa using h0
        have d5 : (cv != 0) = true := by simpa using h0
        go_wp2_with (go_at_call 94; refine HC.out.mono ?_; rintro e w' ⟨rfl, rfl⟩)
        go_ret
        exact ⟨ret_int hd2.out.symm, rfl⟩
    · obtain rfl : k = n := by omega
      have h0 := Lib.hid (show lexI ks ls = 0 by
        rw [HX.out, List.drop_of_length_le (Nat.le_of_eq HK.out), List.drop_of_length_le (Nat.le_of_eq HL.out)]; rfl)
      go_wp2
      go_ret
      exact ⟨ret_int h0.out.symm, rfl⟩
end Go.Proofs.Ytphalkeokpnpfaa
