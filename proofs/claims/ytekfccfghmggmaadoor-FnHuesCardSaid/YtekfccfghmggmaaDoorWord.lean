/- Words: texts of one to ten small letters. -/
import Derived.Test.YtekfccfghmggmaaDoorNum
namespace Go.Proofs.YtekfccfghmggmaaDoor
open Go.RowKit
set_option linter.unusedVariables false
set_option linter.unusedSimpArgs false

def okc (c : UInt8) : Bool := decide (97 ≤ c.toNat) && decide (c.toNat ≤ 122)
def wordOk (s : ByteArray) : Bool := s.data.toList.all okc && inB s.size 1 10
def okTo (s : ByteArray) (k : Nat) : Prop := ∀ c, c ∈ s.data.toList.take k → okc c = true
theorem okTo_zero (s : ByteArray) : okTo s 0 := by simp [okTo]
theorem okTo_succ (s : ByteArray) (k : Nat) (hk : k < s.size) (h : okTo s k) (h1 : ¬ (s[k].toNat : Int) < 97) (h2 : ¬ 122 < (s[k].toNat : Int)) : okTo s (k + 1) := by
  intro c hc
  rw [List.take_succ_eq_append_getElem (by simpa using hk)] at hc
  rcases List.mem_append.1 hc with hc | hc
  · exact h c hc
  · simp only [List.mem_singleton] at hc
    subst hc
    show okc s[k] = true
    simp only [okc, Bool.and_eq_true, decide_eq_true_eq]
    omega
theorem wordOk_bad (s : ByteArray) (k : Nat) (hk : k < s.size) (h : (s[k].toNat : Int) < 97 ∨ 122 < (s[k].toNat : Int)) : wordOk s = false := by
  simp only [wordOk, Bool.and_eq_false_iff]
  left
  rw [List.all_eq_false]
  refine ⟨s[k], ?_, ?_⟩
  · rw [ByteArray.getElem_eq_getElem_data]; exact Array.getElem_mem_toList _
  · simp only [okc, Bool.and_eq_true, decide_eq_true_eq]
    omega
theorem wordOk_end (s : ByteArray) (h : okTo s s.size) : wordOk s = inB s.size 1 10 := by
  have : s.data.toList.all okc = true := by
    rw [List.all_eq_true]
    intro c hc
    exact h c (by rw [List.take_of_length_le (by simp)]; exact hc)
  simp [wordOk, this]

set_option maxHeartbeats 400000 in
theorem isWord_any (s : ByteArray) (hs : s.size ≤ maxLen) (w : World) :
    Calls Tryd.prog 54 #[.string s] w fun e w' => e = .returned (.bool (wordOk s)) ∧ w = w' := by
  unfold maxLen at hs
  go_enter Tryd.func54, Tryd.ntmps54
  go_wp2
  go_loop [6] (fun i => ∃ k : Nat, k ≤ s.size ∧ i = .int .i64 k ∧ okTo s k) (fun i => s.size - (intOf i).toNat)
  case atStart => exact ⟨0, Nat.zero_le _, rfl, okTo_zero s⟩
  case round =>
    obtain ⟨k, hk, rfl, hg⟩ := hrel
    by_cases hlt : k < s.size
    · go_wp2
      all_goals first
        | (go_ret
           exact ⟨ret_bool (wordOk_bad s k hlt (by omega)).symm, rfl⟩)
        | (go_round
           case rel => exact ⟨k + 1, by omega, by go_num, okTo_succ s k hlt hg (by omega) (by omega)⟩
           case measure => simp [intOf]; omega)
    · obtain rfl : k = s.size := by omega
      go_wp2_with (go_at_call 48; refine (inRange_any _ _ _ _).mono ?_; rintro e w' ⟨rfl, rfl⟩)
      go_ret
      exact ⟨ret_bool (wordOk_end s hg).symm, rfl⟩

set_option maxHeartbeats 400000 in
theorem l2Word_any (s : ByteArray) (hs : s.size ≤ maxLen) (w : World) :
    Calls Tryd.prog 55 #[.string s] w fun e w' => e = .returned (.bool (wordOk s)) ∧ w = w' := by
  unfold maxLen at hs
  go_enter Tryd.func55, Tryd.ntmps55
  go_wp2
  go_loop [3] (fun i => ∃ k : Nat, k ≤ s.size ∧ i = .int .i64 k ∧ okTo s k) (fun i => s.size - (intOf i).toNat)
  case atStart => exact ⟨0, Nat.zero_le _, rfl, okTo_zero s⟩
  case round =>
    obtain ⟨k, hk, rfl, hg⟩ := hrel
    by_cases hlt : k < s.size
    · go_wp2
      all_goals first
        | (go_ret
           exact ⟨ret_bool (wordOk_bad s k hlt (by omega)).symm, rfl⟩)
        | (go_round
           case rel => exact ⟨k + 1, by omega, by go_num, okTo_succ s k hlt hg (by omega) (by omega)⟩
           case measure => simp [intOf]; omega)
    · obtain rfl : k = s.size := by omega
      go_wp2_with (go_at_call 38; refine (l1In_any _ _ _ _).mono ?_; rintro e w' ⟨rfl, rfl⟩)
      go_ret
      exact ⟨ret_bool (wordOk_end s hg).symm, rfl⟩
end Go.Proofs.YtekfccfghmggmaaDoor
