/- The library's comparison of numbers. -/
import Derived.Test.YtekggbmpogmlcaaDoorNum
import Derived.Test.YtekggbmpogmlcaaDoorMem
namespace Go.Proofs.YtekggbmpogmlcaaDoor
open Go.RowKit
set_option linter.unusedVariables false
set_option linter.unusedSimpArgs false

/-- -1, 0 or 1. -/
def cmpI (a b : Int) : Int := if a < b then -1 else if b < a then 1 else 0
/-- The first number that is not 0, or 0. -/
def orI : List Int → Int
  | [] => 0
  | a :: l => if a = 0 then orI l else a
theorem orI_snoc (l : List Int) (a : Int) (h : orI l = 0) : orI (l ++ [a]) = a := by
  induction l with
  | nil => simp [orI]; omega
  | cons b l ih =>
    simp only [List.cons_append, orI] at *
    split at h
    · rename_i hb; rw [if_pos hb]; exact ih h
    · rename_i hb; exact absurd h hb
theorem orI_keep (l m : List Int) (h : orI l ≠ 0) : orI (l ++ m) = orI l := by
  induction l with
  | nil => simp [orI] at h
  | cons b l ih =>
    simp only [List.cons_append, orI] at *
    split
    · rename_i hb; rw [if_pos hb] at h; exact ih h
    · rfl
theorem cmpI_of_lt {a b : Int} (h : a < b) : cmpI a b = -1 := if_pos h
theorem cmpI_of_eq {a b : Int} (h : a = b) : cmpI a b = 0 := by unfold cmpI; rw [if_neg (by omega), if_neg (by omega)]
theorem cmpI_of_gt {a b : Int} (h : b < a) : cmpI a b = 1 := by unfold cmpI; rw [if_neg (by omega), if_pos h]
theorem cmpI_lt {a b : Int} : cmpI a b < 0 ↔ a < b := by unfold cmpI; split <;> (try split) <;> omega
theorem cmpI_gt {a b : Int} : 0 < cmpI a b ↔ b < a := by unfold cmpI; split <;> (try split) <;> omega
theorem cmpI_eq {a b : Int} : cmpI a b = 0 ↔ a = b := by unfold cmpI; split <;> (try split) <;> omega
theorem cmpI_bd (a b : Int) : -1 ≤ cmpI a b ∧ cmpI a b ≤ 1 := by unfold cmpI; split <;> (try split) <;> omega

set_option maxHeartbeats 400000 in
theorem isNaN_any (a : Int) (w : World) : Calls Tryd.prog 58 #[.int .i64 a] w fun e w' => e = .returned (.bool false) ∧ w = w' := by
  go_enter Tryd.func58, Tryd.ntmps58
  go_wp2
  go_ret
  exact ⟨by simp, rfl⟩
set_option maxHeartbeats 400000 in
theorem Compare_any (a b : Int) (w : World) : Calls Tryd.prog 48 #[.int .i64 a, .int .i64 b] w fun e w' => e = .returned (.int .i64 (cmpI a b)) ∧ w = w' := by
  go_enter Tryd.func48, Tryd.ntmps48
  go_wp2_with (go_at_call 58; refine (isNaN_any _ _).mono ?_; rintro e w' ⟨rfl, rfl⟩)
  all_goals
    go_ret
    exact ⟨ret_int (by unfold cmpI; omega), rfl⟩
def ints (l : List Int) : List Value := l.map (Value.int .i64)
theorem ints_get {l : List Int} {k : Nat} {a : Int} (h : l[k]? = some a) : (ints l)[k]? = some (.int .i64 a) := by simp [ints, h]
set_option maxHeartbeats 400000 in
theorem Or_any (A : Option Addr) (n c : Nat) (l : List Int) (w : World) (hn : l.length = n) (hm : n ≤ 1048576) (h : Rd w A n 1 (ints l)) :
    Calls Tryd.prog 55 #[.slice A n c] w fun e w' => e = .returned (.int .i64 (orI l)) ∧ w = w' := by
  have HN := Lib.hid hn
  clear hn
  go_enter Tryd.func55, Tryd.ntmps55
  go_wp2
  go_loop [8] (fun i => ∃ k : Nat, k ≤ n ∧ i = .int .i64 k ∧ orI (l.take k) = 0) (fun i => n - (intOf i).toNat)
  case atStart => exact ⟨0, Nat.zero_le _, rfl, rfl⟩
  case round =>
    obtain ⟨k, hk, rfl, ho⟩ := hrel
    have HO := Lib.hid ho
    clear ho
    by_cases hlt : k < n
    · obtain ⟨b, off, rfl, hb, hc⟩ := h.2 (by omega)
      have hx : l[k]? = some (l[k]'(by have := HN.out; omega)) := List.getElem?_eq_getElem _
      have hk' : k < l.length := by have := HN.out; omega
      have g0 := hc k _ (ints_get hx)
      have ht : l.take (k + 1) = l.take k ++ [l[k]] := List.take_succ_eq_append_getElem hk'
      have hd : l = l.take (k + 1) ++ l.drop (k + 1) := (List.take_append_drop _ _).symm
      have HT := Lib.hid ht
      have HD := Lib.hid hd
      generalize l[k]'hk' = a at *
      clear ht hd hx hc h
      by_cases h0 : a = 0
      · have e0 : (a != 0) = false := by simp [h0]
        have HA := Lib.hid h0
        clear h0
        go_wp2
        go_round
        case rel => exact ⟨k + 1, by omega, by go_num, by rw [HT.out, orI_snoc _ _ HO.out]; exact HA.out⟩
        case measure => simp [intOf]; omega
      · have e0 : (a != 0) = true := by simp [h0]
        have HA := Lib.hid h0
        clear h0
        go_wp2
        go_ret
        exact ⟨ret_int (by rw [HD.out, orI_keep _ _ (by rw [HT.out, orI_snoc _ _ HO.out]; exact HA.out), HT.out, orI_snoc _ _ HO.out]), rfl⟩
    · obtain rfl : n = k := by omega
      go_wp2
      go_ret
      exact ⟨ret_int (by rw [← HO.out, List.take_of_length_le (by have := HN.out; omega)]), rfl⟩
theorem newRd (w : World) (cs : List Value) (T : TypeId) : Rd (w.alloc (.cells cs.toArray T)) (some ⟨w.heap.size, 0, none⟩) cs.length 1 cs := by
  refine ⟨by omega, fun _ => ⟨w.heap.size, 0, rfl, by simp, fun j u hu => ?_⟩⟩
  rw [Nat.zero_add, cell_of_row _ _ _ _ _ _ (heap_alloc_new w _)]
  simpa using hu
theorem Or2_any (a b : Int) (w : World) (T : TypeId) :
    Calls Tryd.prog 55 #[.slice (some ⟨w.heap.size, 0, none⟩) 2 2] (w.alloc (.cells #[.int .i64 a, .int .i64 b] T)) fun e w' => e = .returned (.int .i64 (orI [a, b])) ∧ (w.alloc (.cells #[.int .i64 a, .int .i64 b] T)) = w' :=
  Or_any _ 2 2 [a, b] _ rfl (by omega) (newRd w [.int .i64 a, .int .i64 b] T)
theorem Or4_any (a b c d : Int) (w : World) (T : TypeId) :
    Calls Tryd.prog 55 #[.slice (some ⟨w.heap.size, 0, none⟩) 4 4] (w.alloc (.cells #[.int .i64 a, .int .i64 b, .int .i64 c, .int .i64 d] T)) fun e w' => e = .returned (.int .i64 (orI [a, b, c, d])) ∧ (w.alloc (.cells #[.int .i64 a, .int .i64 b, .int .i64 c, .int .i64 d] T)) = w' :=
  Or_any _ 4 4 [a, b, c, d] _ rfl (by omega) (newRd w [.int .i64 a, .int .i64 b, .int .i64 c, .int .i64 d] T)
end Go.Proofs.YtekggbmpogmlcaaDoor
