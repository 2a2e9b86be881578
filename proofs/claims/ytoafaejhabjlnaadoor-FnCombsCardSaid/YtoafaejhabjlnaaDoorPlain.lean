/- Plain mathematics: no program in sight. -/
import Derived.WalkKit
namespace Go.Proofs.YtoafaejhabjlnaaDoor
open Go.RowKit
set_option linter.unusedVariables false
set_option linter.unusedSimpArgs false

/-- n lies between lo and hi. -/
def inB (n lo hi : Int) : Bool := decide (lo ≤ n) && decide (n ≤ hi)
theorem inB_iff {n lo hi : Int} : inB n lo hi = true ↔ lo ≤ n ∧ n ≤ hi := by simp [inB]
theorem inB_no {n lo hi : Int} : inB n lo hi = false ↔ ¬ (lo ≤ n ∧ n ≤ hi) := by rw [← inB_iff]; simp
theorem ret_int {k : IntKind} {a b : Int} (h : a = b) : Ending.returned (.int k a) = .returned (.int k b) := by rw [h]
theorem ret_bool {a b : Bool} (h : a = b) : Ending.returned (.bool a) = .returned (.bool b) := by rw [h]
theorem ret_int_bool {k : IntKind} {a b : Int} {p q : Bool} (h : a = b) (h' : p = q) : Ending.returned (.tuple #[.int k a, .bool p]) = .returned (.tuple #[.int k b, .bool q]) := by rw [h, h']
theorem ret_bool_bool {a b : Bool} {p q : Bool} (h : a = b) (h' : p = q) : Ending.returned (.tuple #[.bool a, .bool p]) = .returned (.tuple #[.bool b, .bool q]) := by rw [h, h']

theorem wrap_id {n : Int} (h1 : -9223372036854775808 ≤ n) (h2 : n ≤ 9223372036854775807) : wrap64 n = n := by
  unfold wrap64; omega
theorem tmod_neg (a m : Int) (hm : 0 < m) (h : a < 0) : a.tmod m = - ((-a) % m) := by
  have e : a = -(-a) := by omega
  rw [e, Int.neg_tmod, Int.tmod_eq_emod_of_nonneg (by omega)]
  simp
theorem modulo_eq (a : Int) (h1 : -1000000 ≤ a) (h2 : a < 0) : (wrap64 (a.tmod 360 + 360)).tmod 360 = a % 360 := by
  rw [tmod_neg a 360 (by omega) h2, wrap_id (by omega) (by omega), Int.tmod_eq_emod_of_nonneg (by omega)]
  omega

/-- The distance of two hues. -/
def hueDist (a b : Int) : Int := min ((a - b) % 360) ((b - a) % 360)
/-- The hue in the middle. -/
def blend (a b : Int) : Int := if (b - a) % 360 ≤ 180 then (a + (b - a) % 360 / 2) % 360 else (a - (a - b) % 360 / 2) % 360
def hues (a b : Int) : Bool := inB a 0 359 && inB b 0 359
def hueDistR (a b : Int) : Int := if hues a b then hueDist a b else 0
def blendR (a b : Int) : Int := if hues a b then blend a b else 0
theorem hues_yes {a b : Int} (ha : inB a 0 359 = true) (hb : inB b 0 359 = true) : hues a b = true := by simp [hues, ha, hb]
theorem hues_no1 {a b : Int} (ha : inB a 0 359 = false) : hues a b = false := by simp [hues, ha]
theorem hues_no2 {a b : Int} (hb : inB b 0 359 = false) : hues a b = false := by simp [hues, hb]
theorem chain2 (a b : Bool) : a = false ∨ (a = true ∧ b = false) ∨ (a = true ∧ b = true) := by cases a <;> cases b <;> simp
theorem chain3 (a b c : Bool) : a = false ∨ (a = true ∧ b = false) ∨ (a = true ∧ b = true ∧ c = false) ∨ (a = true ∧ b = true ∧ c = true) := by cases a <;> cases b <;> cases c <;> simp
theorem chain4 (a b c d : Bool) : a = false ∨ (a = true ∧ b = false) ∨ (a = true ∧ b = true ∧ c = false) ∨ (a = true ∧ b = true ∧ c = true ∧ d = false) ∨ (a = true ∧ b = true ∧ c = true ∧ d = true) := by cases a <;> cases b <;> cases c <;> cases d <;> simp
theorem chain5 (a b c d e : Bool) : a = false ∨ (a = true ∧ b = false) ∨ (a = true ∧ b = true ∧ c = false) ∨ (a = true ∧ b = true ∧ c = true ∧ d = false) ∨ (a = true ∧ b = true ∧ c = true ∧ d = true ∧ e = false) ∨ (a = true ∧ b = true ∧ c = true ∧ d = true ∧ e = true) := by cases a <;> cases b <;> cases c <;> cases d <;> cases e <;> simp
theorem chain6 (a b c d e f : Bool) : a = false ∨ (a = true ∧ b = false) ∨ (a = true ∧ b = true ∧ c = false) ∨ (a = true ∧ b = true ∧ c = true ∧ d = false) ∨ (a = true ∧ b = true ∧ c = true ∧ d = true ∧ e = false) ∨ (a = true ∧ b = true ∧ c = true ∧ d = true ∧ e = true ∧ f = false) ∨ (a = true ∧ b = true ∧ c = true ∧ d = true ∧ e = true ∧ f = true) := by cases a <;> cases b <;> cases c <;> cases d <;> cases e <;> cases f <;> simp
end Go.Proofs.YtoafaejhabjlnaaDoor
