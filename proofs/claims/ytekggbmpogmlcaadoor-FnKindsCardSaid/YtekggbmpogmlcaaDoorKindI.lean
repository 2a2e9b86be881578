/- A kind of a table: the program's check. -/
import Derived.Test.YtekggbmpogmlcaaDoorKind
namespace Go.Proofs.YtekggbmpogmlcaaDoor
open Go.RowKit
set_option linter.unusedVariables false
set_option linter.unusedSimpArgs false
attribute [local go_sem] ExtOf.cell

set_option maxRecDepth 100000 in
set_option maxHeartbeats 2000000 in
theorem isKind_any (g : Nat) (A : Option Addr) (n c : Nat) (B : Option Addr) (m d : Nat) (ss : List Int) (bs : List Ban) (K : Option Addr) (l e : Nat) (ks : List Int) (w : World) (h : TabL w A n B m ss bs) (p0 : w.cell? ⟨g, 0, none⟩ = some (.slice A n c)) (hs : ∀ s ∈ ss, 1 ≤ s ∧ s ≤ 5) (hl : ks.length = l) (hl2 : l ≤ 1048576) (hk : Rd w K l 1 (ints ks)) :
    Calls Tryd.prog 26 #[.pointer (some ⟨g, 0, none⟩), .slice K l e] w fun e w' => e = .returned (.bool (KindOk ss ks)) ∧ Ext w w' := by
  have hn := h.sm
  have HN := Lib.hid h.sl
  have HL := Lib.hid hl
  have HS := Lib.hid hs
  have P0 := Lib.hid p0
  clear hs hl p0
  go_enter Tryd.func26, Tryd.ntmps26
  go_wp2
  go_loopw [9] (fun i wr => ∃ k : Nat, k ≤ l ∧ k ≤ n ∧ i = .int .i64 k ∧ noneTo zbad (ks.zip ss) k ∧ Ext w wr) (fun i _ => l - (intOf i).toNat)
  case atStart => exact ⟨0, Nat.zero_le _, Nat.zero_le _, rfl, noneTo_zero _ _, Ext.refl _⟩
  case round =>
    obtain ⟨k, hkl, hkn, rfl, hno, he⟩ := hrel
    have HNO := Lib.hid hno
    clear hno
    have t0 : wr.cell? ⟨g, 0, none⟩ = some (.slice A n c) := he.cell1 P0.out
    have hz : g < wr.heap.size := World.block_lt_of_cell? wr _ t0
    by_cases hlt : k < l
    · obtain ⟨b2, off2, v, eK, hb2, hv, gv⟩ := (hk.ext he).int hlt
      subst eK
      by_cases hlt2 : k < n
      · obtain ⟨b, off, s, eS, hb, hs, gs⟩ := (h.sr.ext he).int hlt2
        subst eS
        have hsb := HS.out s (List.mem_of_getElem? hs.out)
        have w1 : IntKind.i64.wrap (s - 1) = s - 1 := IntWalk.i64_in _ (by omega)
        have d1 : decide ((n : Int) ≤ k) = false := by simp; omega
        have d2 : decide (n ≤ k) = false := by simp; omega
        cases hq : inB v 0 (s - 1)
        · have hbad := Lib.hid (KindOk_bad hv.out hs.out hq)
          go_wp2_with (go_at_call 36; refine (inRange_any _ _ _ _).mono ?_; rintro e w' ⟨rfl, rfl⟩)
          go_ret
          exact ⟨ret_bool hbad.out.symm, he⟩
        · have hgood := Lib.hid (noneTo_succ HNO.out (zip_get hv.out hs.out) (by simp [zbad, hq]))
          go_wp2_with (go_at_call 36; refine (inRange_any _ _ _ _).mono ?_; rintro e w' ⟨rfl, rfl⟩)
          go_roundw
          case rel => exact ⟨k + 1, by omega, by omega, by go_num, hgood.out, he⟩
          case measure => simp [intOf]; omega
      · have hbad := Lib.hid (KindOk_len (ss := ss) (ks := ks) (by rw [HN.out, HL.out]; omega))
        have d1 : decide ((n : Int) ≤ k) = true := by simp; omega
        have d2 : decide (n ≤ k) = true := by simp; omega
        go_wp2_with (go_at_call 36; refine (inRange_any _ _ _ _).mono ?_; rintro e w' ⟨rfl, rfl⟩)
        go_ret
        exact ⟨ret_bool hbad.out.symm, he⟩
    · obtain rfl : k = l := by omega
      have hkz : ((k : Int) == (n : Int)) = decide (k = n) := by rw [Bool.eq_iff_iff, beq_iff_eq, decide_eq_true_eq]; omega
      have hend := Lib.hid (KindOk_end (ss := ss) HL.out (by have := HN.out; omega) HNO.out)
      go_wp2
      go_ret
      exact ⟨ret_bool (by rw [hend.out, HL.out, HN.out]), he⟩
end Go.Proofs.YtekggbmpogmlcaaDoor
