/- BestRoute. -/
import Derived.Test.YtmgpdenofkloeaaDoorReach
import Derived.Test.YtmgpdenofkloeaaDoorFirst
namespace Go.Proofs.YtmgpdenofkloeaaDoor
open Go.RowKit
set_option linter.unusedVariables false
set_option linter.unusedSimpArgs false
attribute [local go_sem] ExtOf.cell

/-- The first one of the best routes from f at m to t, whose end is e. -/
def best (xs : List Mail) (t e : Int) : Nat → Int → Int → List Int
  | 0, _, _ => []
  | n + 1, f, m => if f = t then [] else match xs.findIdx? (hitB xs t e f m) with
    | none => []
    | some i => match xs[i]? with
      | none => []
      | some x => (i : Int) :: best xs t e n x.To x.Arrive
theorem best_stop {xs : List Mail} {t e : Int} (n : Nat) {f m : Int} (h : f = t) : best xs t e n f m = [] := by
  cases n with
  | zero => rfl
  | succ n => rw [best, if_pos h]
theorem best_step {xs : List Mail} {t e f m : Int} {n i : Nat} {x : Mail} (h : f ≠ t) (hno : noneTo (hitB xs t e f m) xs i) (hx : xs[i]? = some x) (hp : hitB xs t e f m x = true) :
    best xs t e (n + 1) f m = (i : Int) :: best xs t e n x.To x.Arrive := by
  obtain ⟨hk, ex⟩ := List.getElem?_eq_some_iff.1 hx
  have hf : xs.findIdx? (hitB xs t e f m) = some i := by
    rw [List.findIdx?_eq_some_iff_getElem]
    refine ⟨hk, by rw [ex]; exact hp, fun j hj => ?_⟩
    have := hno xs[j] (by rw [List.mem_take_iff_getElem]; exact ⟨j, by omega, rfl⟩)
    simp [this]
  rw [best, if_neg h, hf]
  simp only [hx]
theorem best_len (xs : List Mail) (t e : Int) : ∀ (n : Nat) (f m : Int), (best xs t e n f m).length ≤ n
  | 0, f, m => by simp [best]
  | n + 1, f, m => by
    rw [best]
    split
    · simp
    · split
      · simp
      · split
        · simp
        · have := best_len xs t e n
          simp only [List.length_cons]
          rename_i x _
          have := this x.To x.Arrive
          omega
/-- What holds on the way: the state and what is still to come. -/
structure OnWay (xs : List Mail) (t e f m : Int) (fuel : Nat) (l R : List Int) : Prop where
  f1 : inB f 0 9 = true
  m1 : inB m 0 9999 = true
  tm : times xs f m t.toNat = e
  eq : R = l ++ best xs t e fuel f m
  fu : 9999 < m + fuel
  le : l.length + fuel ≤ 10000
theorem OnWay.start {xs : List Mail} {t e f m : Int} (hf : inB f 0 9 = true) (hm : inB m 0 9999 = true) (he : times xs f m t.toNat = e) : OnWay xs t e f m 10000 [] (best xs t e 10000 f m) :=
  ⟨hf, hm, he, by simp, by have := inB_iff.1 hm; omega, by simp⟩
theorem OnWay.stop {xs : List Mail} {t e f m : Int} {fuel : Nat} {l R : List Int} (h : OnWay xs t e f m fuel l R) (hf : f = t) : R = l := by rw [h.eq, best_stop _ hf, List.append_nil]
theorem OnWay.end_ {xs : List Mail} {t e f m : Int} {fuel : Nat} {l R : List Int} (h : OnWay xs t e f m fuel l R) (hok : MailsOk xs = true) (hf : f = t) : m = e := by
  obtain ⟨m1, m2⟩ := inB_iff.1 h.m1
  have := times_self (f := f) (MailsOk_good hok) m1 m2
  rw [← h.tm, ← hf, this]
theorem OnWay.step {xs : List Mail} {t e f m : Int} {fuel i : Nat} {l R : List Int} {x : Mail} (h : OnWay xs t e f m fuel l R) (hok : MailsOk xs = true) (hf : f ≠ t) (hno : noneTo (hitB xs t e f m) xs i) (hx : xs[i]? = some x) (hp : hitB xs t e f m x = true) :
    ∃ fuel', fuel = fuel' + 1 ∧ m < x.Arrive ∧ OnWay xs t e x.To x.Arrive fuel' (l ++ [(i : Int)]) R := by
  obtain ⟨m1, m2⟩ := inB_iff.1 h.m1
  have hfu := h.fu
  obtain ⟨fuel, rfl⟩ : ∃ g, fuel = g + 1 := ⟨fuel - 1, by omega⟩
  obtain ⟨p1, p2, p3⟩ := hitB_iff.1 hp
  obtain ⟨⟨a1, a2⟩, ⟨a3, a4⟩, a5, ⟨a6, a7⟩, a8, a9⟩ := good_all (MailsOk_good hok x (List.mem_of_getElem? hx))
  refine ⟨fuel, rfl, by omega, inB_iff.2 ⟨a3, a4⟩, inB_iff.2 ⟨a6, a7⟩, p3, ?_, by omega, ?_⟩
  · rw [h.eq, best_step hf hno hx hp]; simp
  · have := h.le; simp; omega
theorem OnWay.goes {xs : List Mail} {t e f m : Int} {fuel : Nat} {l R : List Int} (h : OnWay xs t e f m fuel l R) (hok : MailsOk xs = true) (ht : 0 ≤ t) (hf : f ≠ t) (he : e ≠ 10000) {n : Nat} (hn : xs.length ≤ n) (hno : noneTo (hitB xs t e f m) xs n) : False := by
  obtain ⟨f1, f2⟩ := inB_iff.1 h.f1
  obtain ⟨m1, m2⟩ := inB_iff.1 h.m1
  obtain ⟨x, hx, hp⟩ := times_next hok f1 m1 m2 ht hf (by rw [h.tm]; exact he)
  rw [h.tm] at hp
  have := hno x (by rw [List.take_of_length_le hn]; exact hx)
  rw [this] at hp; cases hp
theorem negT_eq {v e : Int} (h0 : 0 ≤ e) (he : e ≠ 10000) : (negT v == e) = (v == e) := by
  unfold negT
  split
  · rw [Bool.eq_iff_iff]; simp; omega
  · rfl
def bestV (xs : List Mail) (f m t : Int) : List Int := if times xs f m t.toNat = 10000 then [] else best xs t (times xs f m t.toNat) 10000 f m
def bestR (xs : List Mail) (f m t : Int) : List Int := if askE xs f m t then bestV xs f m t else []
theorem bestV_len {xs : List Mail} {f m t : Int} : (bestV xs f m t).length ≤ 10000 := by
  unfold bestV
  split
  · simp
  · exact best_len _ _ _ _ _ _
theorem bestR_len {xs : List Mail} {f m t : Int} : (bestR xs f m t).length ≤ 10000 := by
  unfold bestR
  split
  · exact bestV_len
  · simp



end Go.Proofs.YtmgpdenofkloeaaDoor
