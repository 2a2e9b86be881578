/- EndOfRoute, IsRoute, WaitsOn. -/
import Derived.Test.YtmgpdenofkloeaaDoorEarl
import Derived.Test.YtmgpdenofkloeaaDoorOpenI
import Derived.IntWalk
namespace Go.Proofs.YtmgpdenofkloeaaDoor
open Go.RowKit
set_option linter.unusedVariables false
set_option linter.unusedSimpArgs false
attribute [local go_sem] ExtOf.cell

def rideStep (xs : List Mail) (f m v : Int) : Option (Int × Int) := if v < 0 then none else match xs[v.toNat]? with
  | none => none
  | some x => if x.From = f ∧ m ≤ x.Leave then some (x.To, x.Arrive) else none
/-- Where and when a list of indices ends, if it is a route. -/
def ride (xs : List Mail) : Int → Int → List Int → Option (Int × Int)
  | f, m, [] => some (f, m)
  | f, m, v :: r => match rideStep xs f m v with
    | none => none
    | some (a, b) => ride xs a b r
def rA (R : Option (Int × Int)) : Int := (R.map Prod.fst).getD 0
def rB (R : Option (Int × Int)) : Int := (R.map Prod.snd).getD 0
theorem rideStep_out {xs : List Mail} {f m v : Int} {n : Nat} (hn : xs.length = n) (h : inB v 0 ((n : Int) - 1) = false) : rideStep xs f m v = none := by
  have := inB_no.1 h
  unfold rideStep
  split
  · rfl
  · rw [List.getElem?_eq_none (by omega)]
theorem rideStep_in {xs : List Mail} {f m : Int} {j : Nat} {x : Mail} (h : xs[j]? = some x) : rideStep xs f m j = if x.From = f ∧ m ≤ x.Leave then some (x.To, x.Arrive) else none := by
  unfold rideStep
  rw [if_neg (by omega)]
  simp only [Int.toNat_natCast, h]
theorem ride_next {xs : List Mail} {f m v : Int} {r : List Int} {k : Nat} (h : r[k]? = some v) : ride xs f m (r.drop k) = match rideStep xs f m v with
    | none => none
    | some (a, b) => ride xs a b (r.drop (k + 1)) := by
  obtain ⟨hk, e⟩ := List.getElem?_eq_some_iff.1 h
  rw [List.drop_eq_getElem_cons hk, e, ride]
theorem ride_bad {xs : List Mail} {f m v : Int} {r : List Int} {k : Nat} (h : r[k]? = some v) (hs : rideStep xs f m v = none) : ride xs f m (r.drop k) = none := by rw [ride_next h, hs]
theorem ride_good {xs : List Mail} {f m v a b : Int} {r : List Int} {k : Nat} (h : r[k]? = some v) (hs : rideStep xs f m v = some (a, b)) : ride xs f m (r.drop k) = ride xs a b (r.drop (k + 1)) := by rw [ride_next h, hs]
theorem ride_end {xs : List Mail} {f m : Int} {r : List Int} {n : Nat} (h : r.length ≤ n) : ride xs f m (r.drop n) = some (f, m) := by rw [List.drop_eq_nil_of_le h]; rfl
def spentOne (xs : List Mail) (v : Int) : Int := match xs[v.toNat]? with
  | none => 0
  | some x => x.Arrive - x.Leave
/-- The minutes in the mails. -/
def spent (xs : List Mail) (r : List Int) : Int := (r.map (spentOne xs)).sum
theorem spent_succ {xs : List Mail} {r : List Int} {k j : Nat} {x : Mail} (h : r[k]? = some (j : Int)) (hx : xs[j]? = some x) : spent xs (r.take (k + 1)) = spent xs (r.take k) + (x.Arrive - x.Leave) := by
  obtain ⟨hk, e⟩ := List.getElem?_eq_some_iff.1 h
  unfold spent
  rw [List.take_succ_eq_append_getElem hk, List.map_append, List.sum_append, e]
  simp [spentOne, hx]
theorem spentOne_bd {xs : List Mail} (hg : ∀ x ∈ xs, MailGood x = true) (v : Int) : 0 ≤ spentOne xs v ∧ spentOne xs v ≤ 9999 := by
  unfold spentOne
  split
  · omega
  · rename_i x hx
    have := good_all (hg x (List.mem_of_getElem? hx))
    omega
theorem spent_bd {xs : List Mail} (hg : ∀ x ∈ xs, MailGood x = true) : ∀ (r : List Int), 0 ≤ spent xs r ∧ spent xs r ≤ 9999 * r.length
  | [] => by simp [spent]
  | v :: r => by
    have ih := spent_bd hg r
    have h1 := spentOne_bd hg v
    have e : spent xs (v :: r) = spentOne xs v + spent xs r := by simp [spent]
    rw [e]
    simp only [List.length_cons, Int.natCast_add]
    omega
theorem ride_in {xs : List Mail} : ∀ (r : List Int) (f m : Int), ride xs f m r ≠ none → ∀ (k : Nat) (v : Int), r[k]? = some v → ∃ (j : Nat) (x : Mail), v = j ∧ xs[j]? = some x
  | [], f, m, _, k, v, hv => by simp at hv
  | u :: r, f, m, h, k, v, hv => by
    rw [ride] at h
    cases hs : rideStep xs f m u with
    | none => rw [hs] at h; exact absurd rfl h
    | some p =>
      obtain ⟨a, b⟩ := p
      rw [hs] at h
      cases k with
      | zero =>
        simp at hv; subst hv
        unfold rideStep at hs
        split at hs
        · cases hs
        · split at hs
          · cases hs
          · rename_i x hx
            exact ⟨u.toNat, x, by omega, hx⟩
      | succ k => exact ride_in r a b h k v (by simpa using hv)



def rideR (xs : List Mail) (f m : Int) (r : List Int) : Option (Int × Int) := if askM xs f m then ride xs f m r else none
theorem rideR_no {xs : List Mail} {f m : Int} {r : List Int} (h : askM xs f m = false) : rideR xs f m r = none := by simp [rideR, h]
theorem rideR_yes {xs : List Mail} {f m : Int} {r : List Int} (h : askM xs f m = true) : rideR xs f m r = ride xs f m r := by simp [rideR, h]
def isRt (xs : List Mail) (f m : Int) (r : List Int) : Bool := askM xs f m && decide (r.length ≤ 20)





end Go.Proofs.YtmgpdenofkloeaaDoor
