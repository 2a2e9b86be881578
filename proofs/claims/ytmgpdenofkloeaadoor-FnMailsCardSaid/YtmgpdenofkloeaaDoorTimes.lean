/- Plain: the least minutes at which routes end. -/
import Derived.Test.YtmgpdenofkloeaaDoorMailW
namespace Go.Proofs.YtmgpdenofkloeaaDoor
open Go.RowKit
set_option linter.unusedVariables false
set_option linter.unusedSimpArgs false

def upd (T : Nat → Int) (k : Nat) (v : Int) : Nat → Int := fun i => if i = k then v else T i
theorem upd_same (T : Nat → Int) (k : Nat) (v : Int) : upd T k v k = v := by simp [upd]
theorem upd_other {T : Nat → Int} {k i : Nat} (v : Int) (h : i ≠ k) : upd T k v i = T i := by simp [upd, h]
def stepF (T : Nat → Int) (x : Mail) : Nat → Int := if T x.From.toNat ≤ x.Leave then upd T x.To.toNat (min (T x.To.toNat) x.Arrive) else T
def startF (f m : Int) : Nat → Int := upd (fun _ => 10000) f.toNat m
/-- The least minutes at all offices, 10000 where there is no route. -/
def times (xs : List Mail) (f m : Int) : Nat → Int := xs.foldl stepF (startF f m)
def timesTo (xs : List Mail) (f m : Int) (k : Nat) : Nat → Int := times (xs.take k) f m
theorem timesTo_zero (xs : List Mail) (f m : Int) : timesTo xs f m 0 = startF f m := by simp [timesTo, times]
theorem timesTo_succ {xs : List Mail} {f m : Int} {k : Nat} {x : Mail} (h : xs[k]? = some x) : timesTo xs f m (k + 1) = stepF (timesTo xs f m k) x := by
  obtain ⟨hk, e⟩ := List.getElem?_eq_some_iff.1 h
  unfold timesTo times
  rw [List.take_succ_eq_append_getElem hk, List.foldl_append, e]; rfl
theorem timesTo_end {xs : List Mail} {f m : Int} {n : Nat} (h : xs.length ≤ n) : timesTo xs f m n = times xs f m := by
  unfold timesTo; rw [List.take_of_length_le h]
theorem stepF_le (T : Nat → Int) (x : Mail) (o : Nat) : stepF T x o ≤ T o := by
  unfold stepF
  split
  · unfold upd; split
    · subst o; exact Int.min_le_left _ _
    · exact Int.le_refl _
  · exact Int.le_refl _
theorem foldF_le : ∀ (xs : List Mail) (T : Nat → Int) (o : Nat), xs.foldl stepF T o ≤ T o
  | [], T, o => Int.le_refl _
  | x :: xs, T, o => Int.le_trans (foldF_le xs _ o) (stepF_le T x o)
theorem foldF_inv {P : (Nat → Int) → Prop} : ∀ (xs : List Mail) (T : Nat → Int), P T → (∀ T x, x ∈ xs → P T → P (stepF T x)) → P (xs.foldl stepF T)
  | [], T, h, _ => h
  | x :: xs, T, h, hs => foldF_inv xs _ (hs T x (by simp) h) (fun T y hy => hs T y (by simp [hy]))
theorem good_all {x : Mail} (h : MailGood x = true) : (0 ≤ x.From ∧ x.From ≤ 9) ∧ (0 ≤ x.To ∧ x.To ≤ 9) ∧ x.From ≠ x.To ∧ (0 ≤ x.Arrive ∧ x.Arrive ≤ 9999) ∧ (0 ≤ x.Leave ∧ x.Leave ≤ x.Arrive - 1) := mlOk_all h
theorem times_bd {xs : List Mail} {f m : Int} (hg : ∀ x ∈ xs, MailGood x = true) (h1 : 0 ≤ m) (h2 : m ≤ 9999) (o : Nat) : m ≤ times xs f m o ∧ times xs f m o ≤ 10000 := by
  have := foldF_inv (P := fun T => ∀ o, m ≤ T o ∧ T o ≤ 10000) xs (startF f m) (fun o => by unfold startF upd; dsimp only; split <;> omega) (fun T x hx h => by
    intro o
    obtain ⟨_, _, _, ⟨_, a2⟩, a3, a4⟩ := good_all (hg x hx)
    refine ⟨?_, Int.le_trans (stepF_le _ _ _) (h o).2⟩
    unfold stepF
    split
    · unfold upd
      split
      · have := (h x.To.toNat).1
        have := (h x.From.toNat).1
        omega
      · exact (h o).1
    · exact (h o).1)
  exact this o
theorem times_self {xs : List Mail} {f m : Int} (hg : ∀ x ∈ xs, MailGood x = true) (h1 : 0 ≤ m) (h2 : m ≤ 9999) : times xs f m f.toNat = m := by
  have a := (times_bd (f := f) hg h1 h2 f.toNat).1
  have b := foldF_le xs (startF f m) f.toNat
  unfold startF at b
  rw [upd_same] at b
  unfold times startF at *
  omega
/-- There is a route from office f at minute m that ends at office o at minute a. -/
inductive Way (xs : List Mail) (f m : Int) : Int → Int → Prop
  | here : Way xs f m f m
  | go {o a : Int} {x : Mail} (h : Way xs f m o a) (hx : x ∈ xs) (hf : x.From = o) (hl : a ≤ x.Leave) : Way xs f m x.To x.Arrive
theorem times_sound {xs : List Mail} {f m : Int} (hg : ∀ x ∈ xs, MailGood x = true) (hf : 0 ≤ f) (h2 : m ≤ 9999) (o : Nat) (h : times xs f m o ≠ 10000) : Way xs f m o (times xs f m o) := by
  have := foldF_inv (P := fun T => ∀ o : Nat, T o ≠ 10000 → Way xs f m o (T o)) xs (startF f m) (fun o => by
    intro ho
    unfold startF upd at *
    split
    · rename_i e
      have : (o : Int) = f := by omega
      rw [this]; exact Way.here
    · rename_i e; rw [if_neg e] at ho; exact absurd rfl ho) (fun T x hx h => by
    intro o ho
    obtain ⟨⟨a1, _⟩, ⟨a2, _⟩, _, ⟨_, a3⟩, a4, a5⟩ := good_all (hg x hx)
    unfold stepF at *
    split at ho
    · rename_i hl
      rw [if_pos hl]
      unfold upd at *
      split at ho
      · rename_i e
        rw [if_pos e]
        have w1 := h x.From.toNat (by omega)
        have w2 := Way.go (x := x) w1 hx (by omega) hl
        have e' : (o : Int) = x.To := by omega
        rcases Int.le_total (T x.To.toNat) x.Arrive with hm | hm
        · rw [Int.min_eq_left hm] at *
          have := h x.To.toNat ho
          rw [e]; exact this
        · rw [Int.min_eq_right hm, e']; exact w2
      · rename_i e
        rw [if_neg e]; exact h o ho
    · rename_i hl
      rw [if_neg hl]; exact h o ho)
  exact this o h
def Sorted (xs : List Mail) : Prop := xs.Pairwise fun a b => a.Leave ≤ b.Leave
theorem foldF_low : ∀ (xs : List Mail) (T : Nat → Int) (l : Int) (o : Nat), (∀ y ∈ xs, l < y.Arrive) → xs.foldl stepF T o ≤ l → T o ≤ l
  | [], T, l, o, _, h => h
  | x :: xs, T, l, o, hy, h => by
    have h1 := foldF_low xs (stepF T x) l o (fun y hy' => hy y (by simp [hy'])) h
    have h2 := hy x (by simp)
    unfold stepF at h1
    split at h1
    · unfold upd at h1
      split at h1
      · rename_i e; subst e; omega
      · exact h1
    · exact h1
theorem foldF_closed : ∀ (xs : List Mail) (T : Nat → Int), Sorted xs → (∀ x ∈ xs, MailGood x = true) → ∀ x ∈ xs, xs.foldl stepF T x.From.toNat ≤ x.Leave → xs.foldl stepF T x.To.toNat ≤ x.Arrive
  | [], T, _, _, x, hx, _ => by simp at hx
  | y :: ys, T, hs, hg, x, hx, h => by
    unfold Sorted at hs
    rw [List.pairwise_cons] at hs
    simp only [List.mem_cons] at hx
    simp only [List.foldl_cons] at h ⊢
    rcases hx with rfl | hx
    · obtain ⟨⟨a1, _⟩, ⟨a2, _⟩, a3, ⟨_, _⟩, a4, a5⟩ := good_all (hg x (by simp))
      have h1 := foldF_low ys (stepF T x) x.Leave x.From.toNat (fun y hy => by
        have := hs.1 y hy
        obtain ⟨_, _, _, _, _, b5⟩ := good_all (hg y (by simp [hy]))
        omega) h
      have h2 : T x.From.toNat ≤ x.Leave := by
        unfold stepF at h1
        split at h1
        · assumption
        · exact h1
      refine Int.le_trans (foldF_le ys _ _) ?_
      unfold stepF
      rw [if_pos h2, upd_same]
      exact Int.min_le_right _ _
    · exact foldF_closed ys (stepF T y) hs.2 (fun z hz => hg z (by simp [hz])) x hx h
theorem times_complete {xs : List Mail} {f m : Int} (hs : Sorted xs) (hg : ∀ x ∈ xs, MailGood x = true) {o a : Int} (h : Way xs f m o a) : times xs f m o.toNat ≤ a := by
  induction h with
  | here => have := foldF_le xs (startF f m) f.toNat; unfold startF at this; rw [upd_same] at this; exact this
  | go h hx hf hl ih =>
    subst hf
    exact foldF_closed xs _ hs hg _ hx (Int.le_trans ih hl)
theorem Way.first {xs : List Mail} {f m o a : Int} (h : Way xs f m o a) : (o = f ∧ a = m) ∨ ∃ x ∈ xs, x.From = f ∧ m ≤ x.Leave ∧ Way xs x.To x.Arrive o a := by
  induction h with
  | here => exact .inl ⟨rfl, rfl⟩
  | @go o a x h hx hf hl ih =>
    right
    rcases ih with ⟨rfl, rfl⟩ | ⟨y, hy, hyf, hyl, hw⟩
    · exact ⟨x, hx, hf, hl, Way.here⟩
    · exact ⟨y, hy, hyf, hyl, hw.go hx hf hl⟩
theorem Way.cons {xs : List Mail} {x : Mail} {o a m : Int} (hx : x ∈ xs) (hl : m ≤ x.Leave) (h : Way xs x.To x.Arrive o a) : Way xs x.From m o a := by
  induction h with
  | here => exact Way.go Way.here hx rfl hl
  | go h hx hf hl ih => exact ih.go hx hf hl
theorem before_some {α : Type} {xs : List α} {k : Nat} {y : α} (h : xs[k]? = some y) : before xs (k + 1) = some y := by
  unfold before; simp [h]
theorem adj_sorted : ∀ (xs : List Mail) (q : Option Mail), adj MailP q xs = true → Sorted xs ∧ ∀ y, q = some y → ∀ x ∈ xs, y.Leave ≤ x.Leave
  | [], q, _ => ⟨List.Pairwise.nil, fun _ _ x hx => by simp at hx⟩
  | z :: zs, q, h => by
    simp only [adj, Bool.and_eq_true] at h
    obtain ⟨h1, h2⟩ := h
    obtain ⟨s1, s2⟩ := adj_sorted zs (some z) h2
    refine ⟨List.pairwise_cons.2 ⟨fun x hx => s2 z rfl x hx, s1⟩, fun y hy x hx => ?_⟩
    subst hy
    have hyz : y.Leave ≤ z.Leave := by
      simp only [MailP, Bool.and_eq_true, decide_eq_true_eq] at h1
      have := h1.2
      simp only [orI] at this
      rcases Int.lt_trichotomy y.Leave z.Leave with hc | hc | hc
      · omega
      · omega
      · rw [cmpI_of_gt hc, if_neg (by omega)] at this; omega
    simp only [List.mem_cons] at hx
    rcases hx with rfl | hx
    · exact hyz
    · exact Int.le_trans hyz (s2 z rfl x hx)
theorem MailsOk_sorted {xs : List Mail} (h : MailsOk xs = true) : Sorted xs := by
  simp only [MailsOk, Bool.and_eq_true] at h
  exact (adj_sorted xs none h.1).1

/-- A mail with which a best route can go on. -/
def hitB (xs : List Mail) (t e f m : Int) (x : Mail) : Bool := (x.From == f) && (decide (m ≤ x.Leave) && (times xs x.To x.Arrive t.toNat == e))
theorem hitB_iff {xs : List Mail} {t e f m : Int} {x : Mail} : hitB xs t e f m x = true ↔ x.From = f ∧ m ≤ x.Leave ∧ times xs x.To x.Arrive t.toNat = e := by simp [hitB]
theorem times_next {xs : List Mail} {f m t : Int} (h : MailsOk xs = true) (hf : 0 ≤ f) (h1 : 0 ≤ m) (h2 : m ≤ 9999) (ht : 0 ≤ t) (hne : f ≠ t) (he : times xs f m t.toNat ≠ 10000) : ∃ x ∈ xs, hitB xs t (times xs f m t.toNat) f m x = true := by
  have hg := MailsOk_good h
  have hs := MailsOk_sorted h
  have hw := times_sound hg hf h2 t.toNat he
  rw [show ((t.toNat : Nat) : Int) = t by omega] at hw
  rcases hw.first with ⟨e, _⟩ | ⟨x, hx, hxf, hxl, hx2⟩
  · exact absurd e.symm hne
  · refine ⟨x, hx, hitB_iff.2 ⟨hxf, hxl, ?_⟩⟩
    obtain ⟨⟨a1, _⟩, ⟨a2, _⟩, a3, ⟨a6, a7⟩, a4, a5⟩ := good_all (hg x hx)
    have c1 := times_complete hs hg hx2
    have hn : times xs x.To x.Arrive t.toNat ≠ 10000 := by
      have := (times_bd (f := f) hg h1 h2 t.toNat).2
      omega
    have w2 := times_sound hg a2 a7 t.toNat hn
    rw [show ((t.toNat : Nat) : Int) = t by omega] at w2
    have w3 := Way.cons hx hxl w2
    rw [hxf] at w3
    have c2 := times_complete hs hg w3
    omega
theorem times_nohit {xs : List Mail} {f m t : Int} {x : Mail} (h : MailsOk xs = true) (hx : x ∈ xs) (hl : m ≤ x.Leave) (hf : x.From = f) (ht : 0 ≤ t) (hn : times xs x.To x.Arrive t.toNat ≠ 10000) : times xs f m t.toNat ≤ times xs x.To x.Arrive t.toNat := by
  have hg := MailsOk_good h
  obtain ⟨⟨a1, _⟩, ⟨a2, _⟩, a3, ⟨a6, a7⟩, a4, a5⟩ := good_all (hg x hx)
  have w2 := times_sound hg a2 a7 t.toNat hn
  have w3 := Way.cons hx hl w2
  rw [hf] at w3
  have := times_complete (MailsOk_sorted h) hg w3
  rwa [show ((t.toNat : Nat) : Int).toNat = t.toNat by omega] at this

/-- The row of ten minutes. -/
def tlist (T : Nat → Int) : List Int := (List.range 10).map T
theorem tlist_len (T : Nat → Int) : (tlist T).length = 10 := by simp [tlist]
theorem tlist_get (T : Nat → Int) {k : Nat} (h : k < 10) : (tlist T)[k]? = some (T k) := by simp [tlist, h]
theorem tlist_set (T : Nat → Int) {k : Nat} (v : Int) : (tlist T).set k v = tlist (upd T k v) := by
  apply List.ext_getElem?
  intro i
  rw [List.getElem?_set]
  by_cases hi : i < 10
  · rw [tlist_get _ hi, tlist_get _ hi]
    unfold upd
    by_cases e : k = i
    · subst e
      rw [if_pos rfl, if_pos (by simp [tlist_len]; omega), if_pos rfl]
    · rw [if_neg e, if_neg (fun h => e h.symm)]
  · have h1 : (tlist T)[i]? = none := List.getElem?_eq_none (by rw [tlist_len]; omega)
    have h2 : (tlist (upd T k v))[i]? = none := List.getElem?_eq_none (by rw [tlist_len]; omega)
    rw [h1, h2]
    split
    · split
      · rename_i h; simp [tlist_len] at h; omega
      · rfl
    · rfl
/-- -1 for 10000. -/
def negT (v : Int) : Int := if v = 10000 then -1 else v
def negF (T : Nat → Int) : Nat → Int := fun k => negT (T k)
theorem negF_upd (T : Nat → Int) (k : Nat) (v : Int) (h : v ≠ 10000) : negF (upd T k v) = upd (negF T) k v := by
  funext i
  unfold negF upd
  split
  · simp [negT, h]
  · rfl
end Go.Proofs.YtmgpdenofkloeaaDoor
