/- Plain: all kinds of a table in their order, the compatible ones, the next one; no program in sight. -/
import Derived.Test.YtekggbmpogmlcaaDoorFreeI
import Derived.Test.YtekggbmpogmlcaaDoorIdx
namespace Go.Proofs.YtekggbmpogmlcaaDoor
open Go.RowKit
set_option linter.unusedVariables false
set_option linter.unusedSimpArgs false

/-- All kinds of a table of these sizes, by their number in lexicographic order. -/
def kindAtR : List Int → Nat → List Int
  | [], _ => []
  | s :: r, n => kindAtR r (n / s.toNat) ++ [((n % s.toNat : Nat) : Int)]
def kindAt (ss : List Int) (n : Nat) : List Int := kindAtR ss.reverse n
theorem kindAt_nil (n : Nat) : kindAt [] n = [] := rfl
theorem kindAt_snoc (ss : List Int) (s : Int) (n : Nat) : kindAt (ss ++ [s]) n = kindAt ss (n / s.toNat) ++ [((n % s.toNat : Nat) : Int)] := by
  unfold kindAt; rw [List.reverse_append]; rfl
theorem kindAtR_len (r : List Int) : ∀ n, (kindAtR r n).length = r.length := by
  induction r with
  | nil => intro n; rfl
  | cons s r ih => intro n; simp [kindAtR, ih]
theorem kindAt_len (ss : List Int) (n : Nat) : (kindAt ss n).length = ss.length := by
  unfold kindAt; rw [kindAtR_len, List.length_reverse]
def allN (ss : List Int) : Nat := ss.foldl (fun n s => n * s.toNat) 1
theorem allN_snoc (ss : List Int) (s : Int) : allN (ss ++ [s]) = allN ss * s.toNat := by simp [allN, List.foldl_append]
theorem snoc_ind {α : Type} {P : List α → Prop} (h0 : P []) (h1 : ∀ l a, P l → P (l ++ [a])) (l : List α) : P l := by
  have : ∀ n (l : List α), l.length = n → P l := by
    intro n
    induction n with
    | zero => intro l hl; have := List.eq_nil_of_length_eq_zero hl; subst this; exact h0
    | succ n ih =>
      intro l hl
      have hne : l ≠ [] := by intro e; subst e; simp at hl
      rw [← List.dropLast_concat_getLast hne]
      exact h1 _ _ (ih _ (by simp [hl]))
  exact this _ l rfl
theorem allN_le (ss : List Int) : (∀ s ∈ ss, 1 ≤ s ∧ s ≤ 5) → 1 ≤ allN ss ∧ allN ss ≤ 5 ^ ss.length := by
  induction ss using snoc_ind with
  | h0 => intro _; exact ⟨Nat.le_refl _, Nat.le_refl _⟩
  | h1 l a ih =>
    intro h
    obtain ⟨h1, h2⟩ := ih (fun s hs => h s (List.mem_append_left _ hs))
    have ha := h a (by simp)
    rw [allN_snoc, List.length_append, List.length_singleton, Nat.pow_succ]
    have h3 : 1 ≤ a.toNat := by omega
    have h4 : a.toNat ≤ 5 := by omega
    exact ⟨Nat.mul_le_mul h1 h3, Nat.mul_le_mul h2 h4⟩
theorem allN_small {ss : List Int} (h : ∀ s ∈ ss, 1 ≤ s ∧ s ≤ 5) (hl : ss.length ≤ 5) : 1 ≤ allN ss ∧ allN ss ≤ 3125 := by
  obtain ⟨h1, h2⟩ := allN_le ss h
  refine ⟨h1, Nat.le_trans h2 ?_⟩
  exact Nat.le_trans (Nat.pow_le_pow_right (by omega) hl) (by omega)
theorem take_snoc {α : Type} {l : List α} {k : Nat} {x : α} (hx : l[k]? = some x) : l.take (k + 1) = l.take k ++ [x] := by
  obtain ⟨hk, rfl⟩ := List.getElem?_eq_some_iff.1 hx
  exact List.take_succ_eq_append_getElem hk
theorem allN_take {ss : List Int} {k : Nat} {s : Int} (hx : ss[k]? = some s) : allN (ss.take (k + 1)) = allN (ss.take k) * s.toNat := by rw [take_snoc hx, allN_snoc]
theorem allN_take_small {ss : List Int} (h : ∀ s ∈ ss, 1 ≤ s ∧ s ≤ 5) (hl : ss.length ≤ 5) (k : Nat) : 1 ≤ allN (ss.take k) ∧ allN (ss.take k) ≤ 3125 :=
  allN_small (fun s hs => h s (List.mem_of_mem_take hs)) (by rw [List.length_take]; omega)
/-- The first c kinds. -/
def kindsTo (ss : List Int) (c : Nat) : List (List Int) := (List.range c).map (kindAt ss)
theorem kindsTo_succ (ss : List Int) (c : Nat) : kindsTo ss (c + 1) = kindsTo ss c ++ [kindAt ss c] := by simp [kindsTo, List.range_succ]
theorem kindsTo_len (ss : List Int) (c : Nat) : (kindsTo ss c).length = c := by simp [kindsTo]
theorem kindsTo_get (ss : List Int) {c j : Nat} (h : j < c) : (kindsTo ss c)[j]? = some (kindAt ss j) := by simp [kindsTo, h]
theorem kindsTo_one : kindsTo [] 1 = [[]] := rfl
theorem kind_next {ss : List Int} {k j v : Nat} {s : Int} (hx : ss[k]? = some s) (hv : v < s.toNat) : kindAt (ss.take (k + 1)) (j * s.toNat + v) = kindAt (ss.take k) j ++ [(v : Int)] := by
  rw [take_snoc hx, kindAt_snoc]
  have h1 : (j * s.toNat + v) / s.toNat = j := by
    rw [Nat.mul_comm, Nat.mul_add_div (by omega), Nat.div_eq_of_lt hv]; rfl
  have h2 : (j * s.toNat + v) % s.toNat = v := by
    rw [Nat.mul_comm, Nat.mul_add_mod, Nat.mod_eq_of_lt hv]
  rw [h1, h2]
/-- The compatible kinds, in order. -/
def frees (ss : List Int) (bs : List Ban) : List (List Int) := (kindsTo ss (allN ss)).filter (freeOf bs)
theorem filter_cnt {α : Type} (f : Nat → α) (p : α → Bool) : ∀ n, (((List.range n).map f).filter p).length = cnt (fun i => p (f i)) n
  | 0 => rfl
  | n + 1 => by
    rw [List.range_succ, List.map_append, List.filter_append, List.length_append, filter_cnt f p n]
    simp only [List.map_cons, List.map_nil, cnt]
    by_cases h : p (f n) = true
    · rw [if_pos h]; simp [h]
    · rw [if_neg h]; simp [h]
theorem frees_count (ss : List Int) (bs : List Ban) : (frees ss bs).length = cnt (fun i => freeOf bs (kindAt ss i)) (allN ss) := filter_cnt _ _ _
theorem frees_with (ss : List Int) (bs : List Ban) (q : List Int → Bool) : ((frees ss bs).filter q).length = cnt (fun i => q (kindAt ss i) && freeOf bs (kindAt ss i)) (allN ss) := by
  unfold frees
  rw [List.filter_filter, kindsTo, filter_cnt]
theorem frees_len {ss : List Int} {bs : List Ban} {x : List Int} (h : x ∈ frees ss bs) : x.length = ss.length := by
  have := (List.mem_filter.1 h).1
  unfold kindsTo at this
  obtain ⟨i, _, rfl⟩ := List.mem_map.1 this
  exact kindAt_len _ _
theorem frees_any (ss : List Int) (bs : List Ban) (q : List Int → Bool) : (frees ss bs).any q = !(decide (cnt (fun i => q (kindAt ss i) && freeOf bs (kindAt ss i)) (allN ss) = 0)) := by
  rw [← frees_with]
  cases h : (frees ss bs).any q
  · rw [List.any_eq_false] at h
    have : (frees ss bs).filter q = [] := by
      rw [List.filter_eq_nil_iff]; exact h
    simp [this]
  · rw [List.any_eq_true] at h
    obtain ⟨x, hx, hq⟩ := h
    have : 0 < ((frees ss bs).filter q).length := List.length_pos_of_mem (List.mem_filter.2 ⟨hx, hq⟩)
    have h0 : ¬ ((frees ss bs).filter q).length = 0 := by omega
    simp only [h0, decide_false, Bool.not_false]
/-- The first number from n0 on with a property. -/
def nxt (p : Nat → Bool) (n0 N : Nat) : Option Nat := (List.range N).find? fun n => decide (n0 ≤ n) && p n
theorem nxt_hit {p : Nat → Bool} {n0 N n : Nat} (h0 : n0 ≤ n) (hn : n < N) (hp : p n = true) (hno : ∀ i, n0 ≤ i → i < n → p i = false) : nxt p n0 N = some n := by
  unfold nxt
  rw [List.find?_range_eq_some]
  refine ⟨by simp [h0, hp], by simpa using hn, fun i hi => ?_⟩
  by_cases h : n0 ≤ i
  · simp [hno i h hi]
  · simp [h]
theorem nxt_miss {p : Nat → Bool} {n0 N : Nat} (hno : ∀ i, n0 ≤ i → i < N → p i = false) : nxt p n0 N = none := by
  unfold nxt
  rw [List.find?_range_eq_none]
  intro i hi
  by_cases h : n0 ≤ i
  · simp [hno i h hi]
  · simp [h]
/-- The first compatible kind from a number on. -/
def firstFrom (ss : List Int) (bs : List Ban) (n0 : Nat) : Option (List Int) := (nxt (fun i => freeOf bs (kindAt ss i)) n0 (allN ss)).map (kindAt ss)
theorem frees_find (ss : List Int) (bs : List Ban) (q : List Int → Bool) (n0 : Nat) (hq : ∀ i, i < allN ss → q (kindAt ss i) = decide (n0 ≤ i)) : (frees ss bs).find? q = firstFrom ss bs n0 := by
  unfold frees firstFrom nxt kindsTo
  rw [List.find?_filter, List.find?_map]
  congr 1
  generalize hN : allN ss = N at hq
  have : ∀ (l : List Nat), (∀ i ∈ l, i < N) → l.find? ((fun a => decide (freeOf bs a = true ∧ q a = true)) ∘ kindAt ss) = l.find? (fun n => decide (n0 ≤ n) && freeOf bs (kindAt ss n)) := by
    intro l
    induction l with
    | nil => intro _; rfl
    | cons a l ih =>
      intro h
      rw [List.find?_cons, List.find?_cons, ih (fun i hi => h i (List.mem_cons_of_mem _ hi))]
      have e : ((fun a => decide (freeOf bs a = true ∧ q a = true)) ∘ kindAt ss) a = (decide (n0 ≤ a) && freeOf bs (kindAt ss a)) := by
        simp only [Function.comp]
        rw [hq a (h a (by simp)), Bool.eq_iff_iff]
        simp [and_comm]
      rw [e]
  exact this _ (fun i hi => List.mem_range.1 hi)
theorem frees_first (ss : List Int) (bs : List Ban) : (frees ss bs)[0]? = firstFrom ss bs 0 := by
  rw [← frees_find ss bs (fun _ => true) 0 (fun i _ => by simp)]
  cases frees ss bs <;> simp
/-- The number of a kind. -/
def numOf (ss ks : List Int) : Int := (ks.zip ss).foldl (fun n p => n * p.2 + p.1) 0
theorem numOf_snoc {ss ks : List Int} (h : ks.length = ss.length) (s d : Int) : numOf (ss ++ [s]) (ks ++ [d]) = numOf ss ks * s + d := by
  unfold numOf
  rw [List.zip_append h, List.foldl_append]
  rfl
/-- Lists of numbers compared. -/
def lexI : List Int → List Int → Int
  | [], [] => 0
  | [], _ :: _ => -1
  | _ :: _, [] => 1
  | a :: l, b :: m => if cmpI a b = 0 then lexI l m else cmpI a b
theorem lexI_snoc (a b : Int) : ∀ (l m : List Int), l.length = m.length → lexI (l ++ [a]) (m ++ [b]) = if lexI l m = 0 then cmpI a b else lexI l m
  | [], [], _ => by
    simp only [List.nil_append, lexI, if_pos]
    split <;> simp_all
  | [], _ :: _, h => by simp at h
  | _ :: _, [], h => by simp at h
  | x :: l, y :: m, h => by
    have ih := lexI_snoc a b l m (by simpa using h)
    by_cases h0 : cmpI x y = 0
    · have e1 : lexI (x :: l) (y :: m) = lexI l m := by simp only [lexI]; rw [if_pos h0]
      have e2 : lexI (x :: l ++ [a]) (y :: m ++ [b]) = lexI (l ++ [a]) (m ++ [b]) := by simp only [List.cons_append, lexI]; rw [if_pos h0]
      simp only [e1, e2, ih]
    · have e1 : lexI (x :: l) (y :: m) = cmpI x y := by simp only [lexI]; rw [if_neg h0]
      have e2 : lexI (x :: l ++ [a]) (y :: m ++ [b]) = cmpI x y := by simp only [List.cons_append, lexI]; rw [if_neg h0]
      simp only [e1, e2, h0, if_false]
theorem cmp_digits (a b c d s : Int) (hb : 0 ≤ b ∧ b < s) (hd : 0 ≤ d ∧ d < s) : (if cmpI a c = 0 then cmpI b d else cmpI a c) = cmpI (a * s + b) (c * s + d) := by
  rcases Int.lt_trichotomy a c with h | h | h
  · have : a * s + s ≤ c * s := by
      have := Int.mul_le_mul_of_nonneg_right (show a + 1 ≤ c by omega) (show 0 ≤ s by omega)
      rw [Int.add_mul] at this; omega
    rw [cmpI_of_lt h, if_neg (by omega), cmpI_of_lt (by omega)]
  · subst h
    rw [cmpI_of_eq rfl, if_pos rfl]
    rcases Int.lt_trichotomy b d with h2 | h2 | h2
    · rw [cmpI_of_lt h2, cmpI_of_lt (by omega)]
    · subst h2; rw [cmpI_of_eq rfl, cmpI_of_eq rfl]
    · rw [cmpI_of_gt h2, cmpI_of_gt (by omega)]
  · have : c * s + s ≤ a * s := by
      have := Int.mul_le_mul_of_nonneg_right (show c + 1 ≤ a by omega) (show 0 ≤ s by omega)
      rw [Int.add_mul] at this; omega
    rw [cmpI_of_gt h, if_neg (by omega), cmpI_of_gt (by omega)]
theorem snoc_of_len {α : Type} {l : List α} {n : Nat} (h : l.length = n + 1) : ∃ m a, l = m ++ [a] ∧ m.length = n := by
  have hne : l ≠ [] := by intro e; subst e; simp at h
  exact ⟨l.dropLast, l.getLast hne, (List.dropLast_concat_getLast hne).symm, by simp [h]⟩
theorem KindOk_snoc {ss ks : List Int} (hl : ks.length = ss.length) {s d : Int} (h : KindOk (ss ++ [s]) (ks ++ [d]) = true) : KindOk ss ks = true ∧ 0 ≤ d ∧ d < s := by
  simp only [KindOk, Bool.and_eq_true, decide_eq_true_eq, List.zip_append hl, List.all_append, List.zip_cons_cons, List.zip_nil_left, List.all_cons, List.all_nil, Bool.and_true, zbad, Bool.not_not] at h ⊢
  obtain ⟨_, h2, h3⟩ := h
  have := inB_iff.1 h3
  exact ⟨⟨hl, h2⟩, by omega, by omega⟩
theorem lex_num (ss : List Int) : ∀ (ks : List Int) (j : Nat), KindOk ss ks = true → lexI (kindAt ss j) ks = cmpI (j : Int) (numOf ss ks) ∨ allN ss ≤ j := by
  induction ss using snoc_ind with
  | h0 =>
    intro ks j h
    by_cases hj : 1 ≤ j
    · right; exact hj
    · left
      obtain rfl : j = 0 := by omega
      have : ks = [] := by
        simp only [KindOk, Bool.and_eq_true, decide_eq_true_eq] at h
        exact List.eq_nil_of_length_eq_zero h.1
      subst this
      rfl
  | h1 ss s ih =>
    intro ks j h
    have hl : ks.length = ss.length + 1 := by
      simp only [KindOk, Bool.and_eq_true, decide_eq_true_eq] at h
      simpa using h.1
    obtain ⟨ks, d, rfl, hkl⟩ := snoc_of_len hl
    obtain ⟨h1, h2, h3⟩ := KindOk_snoc hkl h
    have hs : 0 < s.toNat := by omega
    rcases ih ks (j / s.toNat) h1 with h4 | h4
    · left
      rw [kindAt_snoc, lexI_snoc _ _ _ _ (by rw [kindAt_len, hkl]), h4, numOf_snoc hkl]
      have hm : j % s.toNat < s.toNat := Nat.mod_lt _ hs
      have hm' : ((j % s.toNat : Nat) : Int) < s := by omega
      rw [cmp_digits _ _ _ _ s ⟨by omega, hm'⟩ ⟨h2, h3⟩]
      have e : ((j / s.toNat : Nat) : Int) * s + ((j % s.toNat : Nat) : Int) = (j : Int) := by
        have := Nat.div_add_mod j s.toNat
        have e2 : (s.toNat : Int) = s := by omega
        rw [← e2, ← Int.natCast_mul, ← Int.natCast_add, Nat.mul_comm]
        exact congrArg Nat.cast this
      rw [e]
    · right
      rw [allN_snoc]
      exact (Nat.le_div_iff_mul_le hs).1 h4
theorem numOf_bd (ss : List Int) : ∀ (ks : List Int), KindOk ss ks = true → 0 ≤ numOf ss ks ∧ numOf ss ks < allN ss := by
  induction ss using snoc_ind with
  | h0 =>
    intro ks h
    have : ks = [] := by
      simp only [KindOk, Bool.and_eq_true, decide_eq_true_eq] at h
      exact List.eq_nil_of_length_eq_zero h.1
    subst this
    exact ⟨Int.le_refl _, by decide⟩
  | h1 ss s ih =>
    intro ks h
    have hl : ks.length = ss.length + 1 := by
      simp only [KindOk, Bool.and_eq_true, decide_eq_true_eq] at h
      simpa using h.1
    obtain ⟨ks, d, rfl, hkl⟩ := snoc_of_len hl
    obtain ⟨h1, h2, h3⟩ := KindOk_snoc hkl h
    obtain ⟨h4, h5⟩ := ih ks h1
    rw [numOf_snoc hkl, allN_snoc, Int.natCast_mul]
    have e2 : (s.toNat : Int) = s := by omega
    rw [e2]
    have h6 := Int.mul_nonneg h4 (show 0 ≤ s by omega)
    have h7 := Int.mul_le_mul_of_nonneg_right (show numOf ss ks + 1 ≤ allN ss by omega) (show 0 ≤ s by omega)
    rw [Int.add_mul] at h7
    omega
/-- The first compatible kind behind a kind. -/
theorem frees_next {ss ks : List Int} (bs : List Ban) (h : KindOk ss ks = true) : (frees ss bs).find? (fun x => decide (0 < lexI x ks)) = firstFrom ss bs ((numOf ss ks + 1).toNat) := by
  obtain ⟨h0, h1⟩ := numOf_bd ss ks h
  refine frees_find ss bs _ _ (fun i hi => ?_)
  rcases lex_num ss ks i h with h2 | h2
  · rw [h2, Bool.eq_iff_iff, decide_eq_true_eq, decide_eq_true_eq, cmpI_gt]
    omega
  · omega
theorem kindAt_ok (ss : List Int) : ∀ (n : Nat), (∀ s ∈ ss, 1 ≤ s) → KindOk ss (kindAt ss n) = true := by
  induction ss using snoc_ind with
  | h0 => intro n _; rfl
  | h1 ss s ih =>
    intro n h
    have hs := h s (by simp)
    have h1 := ih (n / s.toNat) (fun t ht => h t (List.mem_append_left _ ht))
    rw [kindAt_snoc]
    have hl : (kindAt ss (n / s.toNat)).length = ss.length := kindAt_len _ _
    simp only [KindOk, Bool.and_eq_true, decide_eq_true_eq, List.zip_append hl, List.all_append, List.zip_cons_cons, List.zip_nil_left, List.all_cons, List.all_nil, Bool.and_true, zbad, Bool.not_not] at h1 ⊢
    have hm : n % s.toNat < s.toNat := Nat.mod_lt _ (by omega)
    refine ⟨by simp [hl], h1.2, inB_iff.2 ⟨by omega, by omega⟩⟩
end Go.Proofs.YtekggbmpogmlcaaDoor
