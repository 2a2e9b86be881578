/- HeaviestFor (made by wip/rates2.py). -/
import Derived.Test.YtkganlojknhajaaDoorRateF
import Derived.Test.YtkganlojknhajaaDoorPlain2
namespace Go.Proofs.YtkganlojknhajaaDoor
open Go.RowKit
set_option linter.unusedVariables false
set_option linter.unusedSimpArgs false
attribute [local go_sem] ExtOf.cell

def rateLt (a b : Rate) : Prop := rateLess a b = true ∧ RateGood b = true
theorem rates_sorted {xs : List Rate} (h : RatesOk xs = true) : xs.Pairwise rateLt := by
  simp only [RatesOk, Bool.and_eq_true] at h
  refine (adj_pairwise (p := RateP) (R := rateLt) (fun x y hp => ?_) (fun x y z h1 h2 => ?_) xs none h.1).1
  · simp only [RateP, Bool.and_eq_true] at hp
    exact ⟨hp.2, hp.1⟩
  · obtain ⟨h1, gy⟩ := h1
    obtain ⟨h2, gz⟩ := h2
    obtain ⟨_, _, ⟨_, hfu⟩, _, _⟩ := rtOk_all (show rtOk y.Zone y.Grams y.From y.Until y.Cents = true from gy)
    refine ⟨?_, gz⟩
    simp only [rateLess, Bool.or_eq_true, Bool.and_eq_true, decide_eq_true_eq] at *
    omega
/-- The rates of a zone on a day. -/
def onDay (d z : Int) (r : Rate) : Bool := (r.Zone == z) && inB d r.From r.Until
theorem onDay_sorted {xs : List Rate} (d z : Int) (h : RatesOk xs = true) : (xs.filter (onDay d z)).Pairwise fun a b => a.Grams < b.Grams := by
  have h1 := (rates_sorted h).filter (p := onDay d z)
  refine h1.imp_of_mem ?_
  intro a b ha hb hab
  have ha' := (List.mem_filter.1 ha).2
  have hb' := (List.mem_filter.1 hb).2
  obtain ⟨hl, _⟩ := hab
  simp only [onDay, inB, rateLess, Bool.or_eq_true, Bool.and_eq_true, decide_eq_true_eq, beq_iff_eq] at *
  omega
theorem fits_onDay (d z g : Int) (r : Rate) : fits d z g r = (onDay d z r && decide (g ≤ r.Grams)) := by
  simp only [fits, onDay]
  cases (r.Zone == z) <;> cases inB d r.From r.Until <;> simp
theorem find_onDay (xs : List Rate) (d z g : Int) : xs.find? (fits d z g) = (xs.filter (onDay d z)).find? (fun r => decide (g ≤ r.Grams)) := by
  rw [List.find?_filter]
  congr 1
  funext r
  rw [fits_onDay]
  cases onDay d z r <;> simp
def lightQ (c : Int) (r : Rate) : Bool := decide (r.Cents ≤ c)
/-- The last one that costs little enough, by its weight; 0 if there is none. -/
def lastG (xs : List Rate) (d z c : Int) : Int := (((xs.filter fun r => onDay d z r && lightQ c r).getLast?).map Rate.Grams).getD 0
theorem lastG_zero (d z c : Int) (xs : List Rate) : lastG (xs.take 0) d z c = 0 := by simp [lastG]
theorem lastG_yes {xs : List Rate} {d z c : Int} {k : Nat} {x : Rate} (hx : xs[k]? = some x) (hp : (onDay d z x && lightQ c x) = true) : lastG (xs.take (k + 1)) d z c = x.Grams := by
  obtain ⟨hk, e⟩ := List.getElem?_eq_some_iff.1 hx
  simp only [lastG]
  rw [List.take_succ_eq_append_getElem hk, List.filter_append, e]
  simp [List.filter_cons, hp]
theorem lastG_no {xs : List Rate} {d z c : Int} {k : Nat} {x : Rate} (hx : xs[k]? = some x) (hp : (onDay d z x && lightQ c x) = false) : lastG (xs.take (k + 1)) d z c = lastG (xs.take k) d z c := by
  obtain ⟨hk, e⟩ := List.getElem?_eq_some_iff.1 hx
  simp only [lastG]
  rw [List.take_succ_eq_append_getElem hk, List.filter_append, e]
  simp [List.filter_cons, hp]
def hit (xs : List Rate) (d z c g : Int) : Bool := hasRate xs d z g && decide (rateAt xs d z g ≤ c)
theorem hit_find {xs : List Rate} {d z c g : Int} : hit xs d z c g = true ↔ ∃ r, xs.find? (fits d z g) = some r ∧ r.Cents ≤ c := by
  unfold hit hasRate rateAt
  cases hf : xs.find? (fits d z g) with
  | none =>
    have : xs.any (fits d z g) = false := by
      rw [List.any_eq_false]; exact List.find?_eq_none.1 hf
    simp [this]
  | some r =>
    have : xs.any (fits d z g) = true := List.any_eq_true.2 ⟨r, List.mem_of_find?_eq_some hf, List.find?_some hf⟩
    simp [this]
theorem last_of_filter {α : Type} (f : α → Int) (p : α → Bool) : ∀ (ys : List α), (ys.Pairwise fun a b => f a < f b) → ∀ r, (ys.filter p).getLast? = some r → ∀ y ∈ ys, p y = true → f y ≤ f r := by
  intro ys hs r hr y hy hp
  have hm : y ∈ ys.filter p := List.mem_filter.2 ⟨hy, hp⟩
  have hs' := hs.filter (p := p)
  generalize ys.filter p = zs at *
  obtain ⟨ws, rfl⟩ := List.getLast?_eq_some_iff.1 hr
  rcases List.mem_append.1 hm with h | h
  · have := (List.pairwise_append.1 hs').2.2 y h r (by simp)
    omega
  · simp at h; subst h; omega
theorem find_self {α : Type} (f : α → Int) (ys : List α) (hs : ys.Pairwise fun a b => f a < f b) (r : α) (hr : r ∈ ys) : ys.find? (fun x => decide (f r ≤ f x)) = some r := by
  obtain ⟨i, hi, e⟩ := List.getElem_of_mem hr
  rw [List.find?_eq_some_iff_getElem]
  refine ⟨by simp, i, hi, e, fun j hj => ?_⟩
  have := List.pairwise_iff_getElem.1 hs j i (by omega) hi hj
  rw [e] at this
  simp; omega
theorem lastG_filter (xs : List Rate) (d z c : Int) : lastG xs d z c = ((((xs.filter (onDay d z)).filter (lightQ c)).getLast?).map Rate.Grams).getD 0 := by
  unfold lastG
  rw [List.filter_filter]
  have e : (fun r => onDay d z r && lightQ c r) = (fun a => lightQ c a && onDay d z a) := by funext r; rw [Bool.and_comm]
  rw [e]
theorem hit_le {xs : List Rate} {d z c g : Int} (h : RatesOk xs = true) (hh : hit xs d z c g = true) : g ≤ lastG xs d z c ∧ 1 ≤ lastG xs d z c := by
  obtain ⟨r, hf, hc⟩ := hit_find.1 hh
  rw [find_onDay] at hf
  have hm := List.mem_of_find?_eq_some hf
  have hg := List.find?_some hf
  simp only [decide_eq_true_eq] at hg
  have hs := onDay_sorted d z h
  rw [lastG_filter]
  have hp : lightQ c r = true := by simpa [lightQ] using hc
  have hmf : r ∈ (xs.filter (onDay d z)).filter (lightQ c) := List.mem_filter.2 ⟨hm, hp⟩
  cases hl : ((xs.filter (onDay d z)).filter (lightQ c)).getLast? with
  | none => rw [List.getLast?_eq_none_iff] at hl; rw [hl] at hmf; cases hmf
  | some q =>
    have := last_of_filter Rate.Grams (lightQ c) _ hs q hl r hm hp
    have hgood := RatesOk_good h r (List.mem_filter.1 hm).1
    obtain ⟨_, ⟨hg1, _⟩, _, _, _⟩ := rtOk_all (show rtOk r.Zone r.Grams r.From r.Until r.Cents = true from hgood)
    simp
    omega
theorem hit_last {xs : List Rate} {d z c : Int} (h : RatesOk xs = true) (hp : 1 ≤ lastG xs d z c) : hit xs d z c (lastG xs d z c) = true ∧ lastG xs d z c ≤ 2000 := by
  have hs := onDay_sorted d z h
  rw [lastG_filter] at *
  cases hl : ((xs.filter (onDay d z)).filter (lightQ c)).getLast? with
  | none => rw [hl] at hp; simp at hp
  | some q =>
    have hq := List.mem_of_getLast? hl
    obtain ⟨hq1, hq2⟩ := List.mem_filter.1 hq
    have hgood := RatesOk_good h q (List.mem_filter.1 hq1).1
    obtain ⟨_, ⟨hg1, hg2⟩, _, _, _⟩ := rtOk_all (show rtOk q.Zone q.Grams q.From q.Until q.Cents = true from hgood)
    refine ⟨?_, by simpa using hg2⟩
    rw [hit_find]
    refine ⟨q, ?_, by simpa [lightQ] using hq2⟩
    rw [find_onDay]
    exact find_self Rate.Grams _ hs q hq1
theorem lastG_lo {xs : List Rate} {d z c : Int} (h : RatesOk xs = true) : 0 ≤ lastG xs d z c := by
  unfold lastG
  cases hl : (xs.filter fun r => onDay d z r && lightQ c r).getLast? with
  | none => simp
  | some q =>
    have hgood := RatesOk_good h q (List.mem_filter.1 (List.mem_of_getLast? hl)).1
    obtain ⟨_, ⟨hg1, hg2⟩, _, _, _⟩ := rtOk_all (show rtOk q.Zone q.Grams q.From q.Until q.Cents = true from hgood)
    simp; omega
def askH (xs : List Rate) (d z c : Int) : Bool := RatesOk xs && (inB d 0 4000 && (inB z 0 9 && inB c 1 9999))
def heavyR (xs : List Rate) (d z c : Int) : Int := if askH xs d z c then lastG xs d z c else 0
def heavyOk (xs : List Rate) (d z c : Int) : Bool := askH xs d z c && decide (0 < lastG xs d z c)


set_option maxRecDepth 100000 in
set_option maxHeartbeats 1000000 in
theorem HeaviestForI_any (A : Option Addr) (n cap : Nat) (xs : List Rate) (d z c : Int) (w : World) (h : RateL w A n xs) :
    Calls Tryd.prog 18 #[.slice A n cap, .int .i64 d, .int .i64 z, .int .i64 c] w fun e w' => e = .returned (.tuple #[.int .i64 (heavyR xs d z c), .bool (heavyOk xs d z c)]) ∧ Ext w w' := by
  have hsm := h.small
  rcases chain4 (RatesOk xs) (inB d 0 4000) (inB z 0 9) (inB c 1 9999) with h1 | ⟨h1, h2⟩ | ⟨h1, h2, h3⟩ | ⟨h1, h2, h3, h4⟩ | ⟨h1, h2, h3, h4⟩
  · go_enter Tryd.func18, Tryd.ntmps18
    go_wp2_with (first | (go_at_call 30; refine (areRates_any _ _ _ xs _ h).mono ?_; rintro e wa ⟨rfl, he1⟩; have hc1 := he1.cells) | (go_at_call 38; refine (isDay_any _ _).mono ?_; rintro e w' ⟨rfl, rfl⟩) | (go_at_call 31; refine (isZone_any _ _).mono ?_; rintro e w' ⟨rfl, rfl⟩) | (go_at_call 41; refine (isCents_any _ _).mono ?_; rintro e w' ⟨rfl, rfl⟩))
    go_ret2
    exact ⟨ret_int_bool (by simp [heavyR, askH, h1]) (by simp [heavyOk, askH, h1]), he1⟩
  · go_enter Tryd.func18, Tryd.ntmps18
    go_wp2_with (first | (go_at_call 30; refine (areRates_any _ _ _ xs _ h).mono ?_; rintro e wa ⟨rfl, he1⟩; have hc1 := he1.cells) | (go_at_call 38; refine (isDay_any _ _).mono ?_; rintro e w' ⟨rfl, rfl⟩) | (go_at_call 31; refine (isZone_any _ _).mono ?_; rintro e w' ⟨rfl, rfl⟩) | (go_at_call 41; refine (isCents_any _ _).mono ?_; rintro e w' ⟨rfl, rfl⟩))
    go_ret2
    exact ⟨ret_int_bool (by simp [heavyR, askH, h1, h2]) (by simp [heavyOk, askH, h1, h2]), he1⟩
  · go_enter Tryd.func18, Tryd.ntmps18
    go_wp2_with (first | (go_at_call 30; refine (areRates_any _ _ _ xs _ h).mono ?_; rintro e wa ⟨rfl, he1⟩; have hc1 := he1.cells) | (go_at_call 38; refine (isDay_any _ _).mono ?_; rintro e w' ⟨rfl, rfl⟩) | (go_at_call 31; refine (isZone_any _ _).mono ?_; rintro e w' ⟨rfl, rfl⟩) | (go_at_call 41; refine (isCents_any _ _).mono ?_; rintro e w' ⟨rfl, rfl⟩))
    go_ret2
    exact ⟨ret_int_bool (by simp [heavyR, askH, h1, h2, h3]) (by simp [heavyOk, askH, h1, h2, h3]), he1⟩
  · go_enter Tryd.func18, Tryd.ntmps18
    go_wp2_with (first | (go_at_call 30; refine (areRates_any _ _ _ xs _ h).mono ?_; rintro e wa ⟨rfl, he1⟩; have hc1 := he1.cells) | (go_at_call 38; refine (isDay_any _ _).mono ?_; rintro e w' ⟨rfl, rfl⟩) | (go_at_call 31; refine (isZone_any _ _).mono ?_; rintro e w' ⟨rfl, rfl⟩) | (go_at_call 41; refine (isCents_any _ _).mono ?_; rintro e w' ⟨rfl, rfl⟩))
    go_ret2
    exact ⟨ret_int_bool (by simp [heavyR, askH, h1, h2, h3, h4]) (by simp [heavyOk, askH, h1, h2, h3, h4]), he1⟩
  · go_enter Tryd.func18, Tryd.ntmps18
    go_wp2_with (first | (go_at_call 30; refine (areRates_any _ _ _ xs _ h).mono ?_; rintro e wa ⟨rfl, he1⟩; have hc1 := he1.cells) | (go_at_call 38; refine (isDay_any _ _).mono ?_; rintro e w' ⟨rfl, rfl⟩) | (go_at_call 31; refine (isZone_any _ _).mono ?_; rintro e w' ⟨rfl, rfl⟩) | (go_at_call 41; refine (isCents_any _ _).mono ?_; rintro e w' ⟨rfl, rfl⟩))
    go_loopw [10] (fun i wr => ∃ k : Nat, k ≤ 2000 ∧ i = .int .i64 k ∧ (∀ g : Nat, k < g → g ≤ 2000 → hit xs d z c g = false) ∧ Ext w wr) (fun i _ => (intOf i).toNat)
    case atStart => exact ⟨2000, by omega, rfl, fun g h1 h2 => by omega, he1⟩
    case round =>
      obtain ⟨k, hk, rfl, hno, he⟩ := hrel
      have HN := Lib.hid hno
      clear hno hc1
      by_cases hlt : 1 ≤ k
      · have C := Lib.hid (rateFor_any A n cap xs d z (k : Int) wr (h.ext he))
        cases ht : hasRate xs d z (k : Int)
        · have hs := Lib.hid (show ∀ g : Nat, k - 1 < g → g ≤ 2000 → hit xs d z c g = false from fun g q1 q2 => by
            rcases Nat.lt_or_ge k g with hl | hl
            · exact HN.out g hl q2
            · obtain rfl : g = k := by omega
              simp [hit, ht])
          go_wp2_with (go_at_call 33; refine C.out.mono ?_; rintro e wb ⟨rfl, he2⟩; rw [ht])
          go_roundw
          case rel => exact ⟨k - 1, by omega, by go_num, hs.out, he.trans he2⟩
          case measure => simp [intOf]; omega
        · cases hc : decide (rateAt xs d z (k : Int) ≤ c)
          · have hs := Lib.hid (show ∀ g : Nat, k - 1 < g → g ≤ 2000 → hit xs d z c g = false from fun g q1 q2 => by
              rcases Nat.lt_or_ge k g with hl | hl
              · exact HN.out g hl q2
              · obtain rfl : g = k := by omega
                simp only [hit, ht, hc, Bool.and_false])
            generalize rateAt xs d z (k : Int) = ra at *
            go_wp2_with (go_at_call 33; refine C.out.mono ?_; rintro e wb ⟨rfl, he2⟩; rw [ht])
            go_roundw
            case rel => exact ⟨k - 1, by omega, by go_num, hs.out, he.trans he2⟩
            case measure => simp [intOf]; omega
          · have hh : hit xs d z c k = true := by simp only [hit, ht, hc, Bool.and_true]
            obtain ⟨u1, u2⟩ := hit_le h1 hh
            have hl : lastG xs d z c = k := by
              obtain ⟨v1, v2⟩ := hit_last h1 u2
              rcases Int.lt_or_le (k : Int) (lastG xs d z c) with hl | hl
              · have := HN.out (lastG xs d z c).toNat (by omega) (by omega)
                rw [show (((lastG xs d z c).toNat : Nat) : Int) = lastG xs d z c by omega, v1] at this
                cases this
              · omega
            have HL := Lib.hid hl
            clear hl hh u1 u2
            generalize rateAt xs d z (k : Int) = ra at *
            go_wp2_with (go_at_call 33; refine C.out.mono ?_; rintro e wb ⟨rfl, he2⟩; rw [ht])
            go_ret2
            exact ⟨ret_int_bool (by rw [heavyR, HL.out]; simp [askH, h1, h2, h3, h4]) (by rw [heavyOk, HL.out]; simp [askH, h1, h2, h3, h4]; omega), he.trans he2⟩
      · obtain rfl : k = 0 := by omega
        have hl : lastG xs d z c = 0 := by
          have h0 := lastG_lo (d := d) (z := z) (c := c) h1
          rcases Int.lt_or_le 0 (lastG xs d z c) with hl | hl
          · obtain ⟨v1, v2⟩ := hit_last h1 (by omega : 1 ≤ lastG xs d z c)
            have := HN.out (lastG xs d z c).toNat (by omega) (by omega)
            rw [show (((lastG xs d z c).toNat : Nat) : Int) = lastG xs d z c by omega, v1] at this
            cases this
          · omega
        have HL := Lib.hid hl
        clear hl
        go_wp2
        go_ret2
        exact ⟨ret_int_bool (by rw [heavyR, HL.out]; simp) (by rw [heavyOk, HL.out]; simp), he⟩

end Go.Proofs.YtkganlojknhajaaDoor
