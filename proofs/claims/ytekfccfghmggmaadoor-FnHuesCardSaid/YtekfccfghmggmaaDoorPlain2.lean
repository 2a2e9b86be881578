/- Plain mathematics: texts in order; the one element with a key. -/
import Derived.Test.YtekfccfghmggmaaDoorMem
namespace Go.Proofs.YtekfccfghmggmaaDoor
open Go.RowKit
set_option linter.unusedVariables false
set_option linter.unusedSimpArgs false

theorem u8_lt_irrefl (a : UInt8) : decide (a < a) = false := by simp
theorem bytesLess_irrefl : ∀ l : List UInt8, Op.bytesLess l l = false
  | [] => rfl
  | a :: l => by simp [Op.bytesLess, bytesLess_irrefl l]
theorem bytesLess_trans : ∀ a b c : List UInt8, Op.bytesLess a b = true → Op.bytesLess b c = true → Op.bytesLess a c = true
  | _, [], _, h, _ => by simp [Op.bytesLess] at h
  | _, _ :: _, [], _, h => by simp [Op.bytesLess] at h
  | [], _ :: _, _ :: _, _, _ => by simp [Op.bytesLess]
  | x :: a, y :: b, z :: c, h1, h2 => by
    simp only [Op.bytesLess, Bool.or_eq_true, Bool.and_eq_true, decide_eq_true_eq, beq_iff_eq] at *
    rcases h1 with h1 | ⟨h1, h1'⟩ <;> rcases h2 with h2 | ⟨h2, h2'⟩
    · left; exact UInt8.lt_trans h1 h2
    · left; rw [← h2]; exact h1
    · left; rw [h1]; exact h2
    · right; exact ⟨h1.trans h2, bytesLess_trans a b c h1' h2'⟩

/-- Neighbours in order: all in order. -/
theorem adj_pairwise {α : Type} {p : Option α → α → Bool} {R : α → α → Prop} (hp : ∀ x y, p (some x) y = true → R x y) (ht : ∀ x y z, R x y → R y z → R x z) :
    ∀ (xs : List α) (q : Option α), adj p q xs = true → xs.Pairwise R ∧ ∀ y, q = some y → ∀ x ∈ xs, R y x
  | [], q, _ => ⟨List.Pairwise.nil, by simp⟩
  | x :: xs, q, h => by
    simp only [adj, Bool.and_eq_true] at h
    obtain ⟨h1, h2⟩ := adj_pairwise hp ht xs (some x) h.2
    refine ⟨List.Pairwise.cons (fun y hy => h2 x rfl y hy) h1, fun y hq z hz => ?_⟩
    subst hq
    rcases List.mem_cons.1 hz with rfl | hz
    · exact hp y z h.1
    · exact ht y x z (hp y x h.1) (h2 x rfl z hz)

/-- One element alone of a list whose elements all differ. -/
theorem alone_of {α : Type} {x : α} : ∀ l : List α, l.Nodup → x ∈ l → (∀ y ∈ l, y = x) → l.length = 1
  | [], _, h, _ => by simp at h
  | [a], _, _, _ => rfl
  | a :: b :: l, hn, _, h => by
    have h1 := h a (by simp)
    have h2 := h b (by simp)
    rw [h1, h2] at hn
    simp at hn
theorem key_one {α : Type} {β : Type} [BEq β] [LawfulBEq β] {f : α → β} {xs : List α} {x : α} (p : α → Bool) (hd : xs.Pairwise fun a b => f a ≠ f b) (hx : x ∈ xs) :
    (xs.all fun y => p y == (f y == f x)) = (p x && (xs.countP p == 1)) := by
  have hn : xs.Nodup := hd.imp (fun h e => h (by rw [e]))
  have huniq : ∀ y ∈ xs, f y = f x → y = x := by
    intro y hy e
    rcases List.getElem_of_mem hx with ⟨i, hi, rfl⟩
    rcases List.getElem_of_mem hy with ⟨j, hj, rfl⟩
    rw [List.pairwise_iff_getElem] at hd
    rcases Nat.lt_trichotomy i j with h | h | h
    · exact absurd e.symm (hd i j hi hj h)
    · subst h; rfl
    · exact absurd e (hd j i hj hi h)
  rw [Bool.eq_iff_iff]
  simp only [List.all_eq_true, beq_iff_eq, Bool.and_eq_true]
  constructor
  · intro h
    have hpx : p x = true := by rw [h x hx]; simp
    refine ⟨hpx, ?_⟩
    rw [List.countP_eq_length_filter]
    refine alone_of _ (hn.filter _) (List.mem_filter.2 ⟨hx, hpx⟩) (fun y hy => ?_)
    obtain ⟨hy, hpy⟩ := List.mem_filter.1 hy
    rw [h y hy] at hpy
    exact huniq y hy (by simpa using hpy)
  · rintro ⟨hpx, h1⟩ y hy
    rw [List.countP_eq_length_filter, List.length_eq_one_iff] at h1
    obtain ⟨z, hz⟩ := h1
    have hxz : x = z := by have := List.mem_filter.2 ⟨hx, hpx⟩; rw [hz] at this; simpa using this
    rw [Bool.eq_iff_iff]
    simp only [beq_iff_eq]
    constructor
    · intro hpy
      have : y = z := by have := List.mem_filter.2 ⟨hy, hpy⟩; rw [hz] at this; simpa using this
      rw [this, hxz]
    · intro e
      rw [huniq y hy e]; exact hpx
end Go.Proofs.YtekfccfghmggmaaDoor
