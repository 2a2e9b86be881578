/- Combs in groups: plain laws; lists of lists that grow. -/
import Derived.Test.YtoafaejhabjlnaaDoorCombN
import Derived.Test.YtoafaejhabjlnaaDoorFirst
namespace Go.Proofs.YtoafaejhabjlnaaDoor
open Go.RowKit
set_option linter.unusedVariables false
set_option linter.unusedSimpArgs false
attribute [local go_sem] ExtOf.cell

def same (x y : Comb) : Bool := (x.Wide == y.Wide) && (x.High == y.High)
theorem same_iff {x y : Comb} : same x y = true ↔ x.Wide = y.Wide ∧ x.High = y.High := by simp [same]
theorem same_refl (x : Comb) : same x x = true := same_iff.2 ⟨rfl, rfl⟩
theorem same_symm (x y : Comb) : same x y = same y x := by
  rw [Bool.eq_iff_iff, same_iff, same_iff]
  exact ⟨fun h => ⟨h.1.symm, h.2.symm⟩, fun h => ⟨h.1.symm, h.2.symm⟩⟩
theorem same_trans {x y z : Comb} (h : same x y = true) (k : same y z = true) : same x z = true := by
  rw [same_iff] at *
  exact ⟨h.1.trans k.1, h.2.trans k.2⟩
def stepF (fs : List Comb) (x : Comb) : List Comb := if fs.any (same x) then fs else fs ++ [x]
def firstsOf (xs : List Comb) : List Comb := xs.foldl stepF []
theorem firsts_succ {xs : List Comb} {k : Nat} {x : Comb} (hx : xs[k]? = some x) : firstsOf (xs.take (k + 1)) = stepF (firstsOf (xs.take k)) x := by
  obtain ⟨hk, rfl⟩ := List.getElem?_eq_some_iff.1 hx
  unfold firstsOf
  rw [List.take_succ_eq_append_getElem hk, List.foldl_append]
  rfl
theorem step_any (fs : List Comb) (x z : Comb) : (stepF fs x).any (same z) = (fs.any (same z) || same z x) := by
  unfold stepF
  split
  · rename_i h
    rw [List.any_eq_true] at h
    obtain ⟨y, hy, hxy⟩ := h
    cases hz : same z x
    · simp
    · rw [Bool.or_true, List.any_eq_true]
      exact ⟨y, hy, same_trans hz hxy⟩
  · simp
theorem fold_any (z : Comb) : ∀ (l fs : List Comb), (l.foldl stepF fs).any (same z) = (fs.any (same z) || l.any (same z))
  | [], fs => by simp
  | x :: l, fs => by
    rw [List.foldl_cons, fold_any z l, step_any, List.any_cons, Bool.or_assoc]
theorem firsts_any (z : Comb) (l : List Comb) : (firstsOf l).any (same z) = l.any (same z) := by
  unfold firstsOf; rw [fold_any]; simp
def Apart (fs : List Comb) : Prop := fs.Pairwise (fun a b => same a b = false)
theorem step_apart {fs : List Comb} (x : Comb) (h : Apart fs) : Apart (stepF fs x) := by
  unfold stepF
  split
  · exact h
  · rename_i hn
    refine List.pairwise_append.2 ⟨h, List.pairwise_singleton _ _, fun a ha b hb => ?_⟩
    simp only [List.mem_singleton] at hb
    subst hb
    cases hs : same a b
    · rfl
    · exact absurd (List.any_eq_true.2 ⟨a, ha, by rw [same_symm]; exact hs⟩) hn
theorem fold_apart : ∀ (l fs : List Comb), Apart fs → Apart (l.foldl stepF fs)
  | [], fs, h => h
  | x :: l, fs, h => fold_apart l _ (step_apart x h)
theorem firsts_apart (l : List Comb) : Apart (firstsOf l) := fold_apart l [] List.Pairwise.nil
theorem fold_len : ∀ (l fs : List Comb), (l.foldl stepF fs).length ≤ fs.length + l.length
  | [], fs => by simp
  | x :: l, fs => by
    rw [List.foldl_cons]
    have h1 := fold_len l (stepF fs x)
    have h2 : (stepF fs x).length ≤ fs.length + 1 := by
      unfold stepF; split
      · omega
      · simp
    simp only [List.length_cons]; omega
theorem firsts_len (l : List Comb) : (firstsOf l).length ≤ l.length := by
  have := fold_len l []
  unfold firstsOf; simpa using this
/-- The groups of the first k combs. -/
def grps (xs : List Comb) (k : Nat) : List (List Int) := (firstsOf (xs.take k)).map fun y => idsOf (same y) (xs.take k)
theorem grps_zero (xs : List Comb) : grps xs 0 = [] := rfl
theorem grps_new {xs : List Comb} {k : Nat} {x : Comb} (hx : xs[k]? = some x) (hn : (firstsOf (xs.take k)).any (same x) = false) :
    firstsOf (xs.take (k + 1)) = firstsOf (xs.take k) ++ [x] ∧ grps xs (k + 1) = grps xs k ++ [[x.Id]] := by
  have h1 : firstsOf (xs.take (k + 1)) = firstsOf (xs.take k) ++ [x] := by rw [firsts_succ hx, stepF, hn]; rfl
  refine ⟨h1, ?_⟩
  unfold grps
  rw [h1, List.map_append]
  congr 1
  · refine List.map_congr_left (fun y hy => ids_no hx ?_)
    have := List.any_eq_false.1 hn y hy
    rw [same_symm]; simpa using this
  · have h2 := (firsts_any x (xs.take k)).symm.trans hn
    have h3 : idsOf (same x) (xs.take k) = [] := by
      unfold idsOf
      rw [List.filter_eq_nil_iff.2 (fun z hz => by have := List.any_eq_false.1 h2 z hz; simpa using this)]
      rfl
    rw [List.map_singleton, ids_yes hx (same_refl x), h3]
    rfl
theorem grps_old {xs : List Comb} {k j : Nat} {x y : Comb} (hx : xs[k]? = some x) (hy : (firstsOf (xs.take k))[j]? = some y) (hs : same x y = true) :
    firstsOf (xs.take (k + 1)) = firstsOf (xs.take k) ∧ ∃ g, (grps xs k)[j]? = some g ∧ grps xs (k + 1) = (grps xs k).set j (g ++ [x.Id]) := by
  have h1 : firstsOf (xs.take (k + 1)) = firstsOf (xs.take k) := by
    rw [firsts_succ hx, stepF, List.any_eq_true.2 ⟨y, List.mem_of_getElem? hy, hs⟩]; rfl
  refine ⟨h1, idsOf (same y) (xs.take k), ?_, ?_⟩
  · unfold grps; rw [List.getElem?_map, hy]; rfl
  · have hap := List.pairwise_iff_getElem.1 (firsts_apart (xs.take k))
    obtain ⟨hj, ey⟩ := List.getElem?_eq_some_iff.1 hy
    unfold grps
    rw [h1]
    refine List.ext_getElem? (fun i => ?_)
    rw [List.getElem?_set, List.length_map]
    by_cases hij : j = i
    · subst hij
      rw [if_pos rfl, if_pos hj, List.getElem?_map, hy]
      simp only [Option.map_some]
      rw [ids_yes hx (by rw [same_symm]; exact hs)]
    · rw [if_neg hij, List.getElem?_map, List.getElem?_map]
      cases hz : (firstsOf (xs.take k))[i]? with
      | none => rfl
      | some z =>
        obtain ⟨hi, ez⟩ := List.getElem?_eq_some_iff.1 hz
        have hzy : same z y = false := by
          rcases Nat.lt_or_ge i j with h | h
          · have := hap i j hi hj h; rw [ez, ey] at this; exact this
          · have := hap j i hj hi (by omega); rw [ez, ey] at this; rw [same_symm]; exact this
        have hzx : same z x = false := by
          cases hzx : same z x
          · rfl
          · rw [same_trans hzx hs] at hzy; cases hzy
        simp only [Option.map_some]
        rw [ids_no hx hzx]
def sumN (gs : List (List Int)) : Nat := (gs.map List.length).sum
theorem sum_snoc (gs : List (List Int)) (g : List Int) : sumN (gs ++ [g]) = sumN gs + g.length := by simp [sumN]
theorem sum_set {x : Int} : ∀ {gs : List (List Int)} {j : Nat} {g : List Int}, gs[j]? = some g → sumN (gs.set j (g ++ [x])) = sumN gs + 1
  | [], j, g, h => by simp at h
  | a :: gs, 0, g, h => by
    simp at h; subst h
    simp [sumN]; omega
  | a :: gs, j + 1, g, h => by
    have := sum_set (x := x) (gs := gs) (j := j) (g := g) (by simpa using h)
    simp [sumN] at this ⊢
    omega
theorem sum_grps (xs : List Comb) : ∀ k, k ≤ xs.length → sumN (grps xs k) = k
  | 0, _ => rfl
  | k + 1, h => by
    have hx : xs[k]? = some xs[k] := List.getElem?_eq_getElem h
    have ih := sum_grps xs k (by omega)
    cases hn : (firstsOf (xs.take k)).any (same xs[k])
    · rw [(grps_new hx hn).2, sum_snoc, ih]; rfl
    · rw [List.any_eq_true] at hn
      obtain ⟨y, hy, hs⟩ := hn
      obtain ⟨j, hj⟩ := List.mem_iff_getElem?.1 hy
      obtain ⟨_, g, hg, e⟩ := grps_old hx hj hs
      rw [e, sum_set hg, ih]
def sameR (xs : List Comb) : List (List Int) := if CombsOk xs then grps xs xs.length else []
theorem grps_end {xs : List Comb} {n : Nat} (h : xs.length = n) : grps xs xs.length = grps xs n := by rw [h]
theorem grps_full (xs : List Comb) : grps xs xs.length = (firstsOf xs).map fun y => idsOf (same y) xs := by unfold grps; rw [List.take_length]

abbrev Kd := Value × List Int
/-- A list of lists of numbers in memory: the outer row's values, each with the numbers that it reads as. -/
structure Lists (w : World) (base : Nat) (v : Value) (zs : List Kd) : Prop where
  row : w.ownsRow base 27 1 v zs.length (zs.map Prod.fst)
  each : ∀ z ∈ zs, w.ownsRow base 3 1 z.1 z.2.length (ints z.2)
theorem Lists.ext {w w' : World} {base : Nat} {v : Value} {zs : List Kd} (h : Lists w base v zs) (he : Ext w w') : Lists w' base v zs :=
  ⟨he.own h.row, fun z hz => he.own (h.each z hz)⟩
theorem Lists.low {w : World} {b b' : Nat} {v : Value} {zs : List Kd} (h : Lists w b v zs) (hb : b' ≤ b) : Lists w b' v zs := ⟨own_low' h.row hb, fun z hz => own_low' (h.each z hz) hb⟩
theorem intT : (3 : Nat) ≠ 27 := by decide
theorem Lists.push {w w' : World} {base : Nat} {v v' : Value} {zs : List Kd} {u : Value} {l : List Int} (h : Lists w base v zs) (hu : w.ownsRow base 3 1 u l.length (ints l))
    (hg : w.grownBy w' v.ownBlock) (hr : w'.ownsRow base 27 1 v' (zs.length + 1) (zs.map Prod.fst ++ [u])) : Lists w' base v' (zs ++ [(u, l)]) := by
  refine ⟨by simpa using hr, fun z hz => ?_⟩
  rcases List.mem_append.1 hz with hz | hz
  · exact (h.each z hz).kept hg (own_types (h.each z hz) h.row intT)
  · simp only [List.mem_singleton] at hz
    subst hz
    exact hu.kept hg (own_types hu h.row intT)
/-- Element k: its value, its numbers, the cell that holds it. -/
theorem Lists.get {w : World} {base : Nat} {A : Option Addr} {n c : Nat} {zs : List Kd} (h : Lists w base (.slice A n c) zs) {k : Nat} (hk : k < n) (hn : zs.length = n) :
    ∃ (g : Nat) (B : Option Addr) (e : Nat) (l : List Int), A = some ⟨g, 0, none⟩ ∧ g < w.heap.size ∧ Hid (zs[k]? = some (.slice B l.length e, l)) ∧ w.cell? ⟨g, k, none⟩ = some (.slice B l.length e) ∧ w.ownsRow base 3 1 (.slice B l.length e) l.length (ints l) := by
  subst hn
  have hx : zs[k]? = some zs[k] := List.getElem?_eq_getElem hk
  have ho := h.each zs[k] (List.getElem_mem hk)
  obtain ⟨B, e, hv⟩ := own_slice ho
  obtain ⟨g, cap, hv', hb, hlt⟩ := h.row.form (by omega)
  injection hv' with hA
  subst hA
  refine ⟨g, B, e, zs[k].2, rfl, hlt, ?_, ?_, ?_⟩
  · rw [← hv]; exact hx
  · refine own_at h.row ?_
    rw [← hv]; simp [hk]
  · rw [← hv]; exact ho
/-- Such a list whose rows lie apart: each of them can grow. -/
structure Grp (w : World) (base : Nat) (v : Value) (zs : List Kd) : Prop where
  ls : Lists w base v zs
  apart : ∀ (i j : Nat) (zi zj : Kd), i ≠ j → zs[i]? = some zi → zs[j]? = some zj → zi.1.ownBlock = none ∨ zi.1.ownBlock ≠ zj.1.ownBlock
theorem Grp.ext {w w' : World} {base : Nat} {v : Value} {zs : List Kd} (h : Grp w base v zs) (he : Ext w w') : Grp w' base v zs := ⟨h.ls.ext he, h.apart⟩
theorem Grp.nil (w : World) (base : Nat) : Grp w base (.slice none 0 0) [] := ⟨⟨own_nil _ _ _ _, fun z hz => by cases hz⟩, fun i j zi zj _ h => by simp at h⟩
theorem Grp.pushNil {w w' : World} {base : Nat} {v v' : Value} {zs : List Kd} (h : Grp w base v zs)
    (hg : w.grownBy w' v.ownBlock) (hr : w'.ownsRow base 27 1 v' (zs.length + 1) (zs.map Prod.fst ++ [.slice none 0 0])) : Grp w' base v' (zs ++ [(.slice none 0 0, [])]) := by
  refine ⟨h.ls.push (own_nil _ _ _ _) hg hr, fun i j zi zj hij hi hj => ?_⟩
  have hil := (List.getElem?_eq_some_iff.1 hi).1
  have hjl := (List.getElem?_eq_some_iff.1 hj).1
  simp only [List.length_append, List.length_singleton] at hil hjl
  by_cases hi2 : i < zs.length
  · rw [List.getElem?_append_left hi2] at hi
    by_cases hj2 : j < zs.length
    · rw [List.getElem?_append_left hj2] at hj
      exact h.apart i j zi zj hij hi hj
    · obtain rfl : j = zs.length := by omega
      simp at hj; subst hj
      cases hv : zi.1.ownBlock with
      | none => exact .inl rfl
      | some q => right; simp [Value.ownBlock]
  · obtain rfl : i = zs.length := by omega
    simp at hi; subst hi
    exact .inl rfl
/-- Element j has grown, and the outer row holds it. -/
theorem Grp.grow {w w1 : World} {base q n c j m e e' : Nat} {A A' : Option Addr} {zs : List Kd} {l : List Int} {x : Int} (h : Grp w base (.slice (some ⟨q, 0, none⟩) n c) zs) (hn : zs.length = n)
    (hz : zs[j]? = some (.slice A m e, l)) (hr : w1.ownsRow base 3 1 (.slice A' (m + 1) e') (m + 1) (ints (l ++ [x]))) (hm : l.length = m)
    (hg : w.grownBy w1 (Value.ownBlock (.slice A m e))) (ho : ∀ gg, Off A gg → gg < w.heap.size → Off A' gg) :
    Grp (w1.setCell ⟨q, j, none⟩ (.slice A' (m + 1) e')) base (.slice (some ⟨q, 0, none⟩) n c) (zs.set j (.slice A' (m + 1) e', l ++ [x])) ∧ w1.grownBy (w1.setCell ⟨q, j, none⟩ (.slice A' (m + 1) e')) (some q) := by
  have hjm := h.ls.each _ (List.mem_of_getElem? hz)
  have hrow := h.ls.row
  rw [hn] at hrow
  have row1 := hrow.kept hg (own_types hrow hjm (fun e => intT e.symm))
  have st := row1.stored j (.slice A' (m + 1) e')
  have hr2 := hr.kept st.2 (own_types hr row1 intT)
  refine ⟨⟨⟨?_, fun z hz' => ?_⟩, fun i k zi zk hik hi hk => ?_⟩, st.2⟩
  · have := st.1
    rw [List.length_set, List.map_set, hn]
    exact this
  · obtain ⟨i, hi⟩ := List.mem_iff_getElem?.1 hz'
    rw [List.getElem?_set] at hi
    by_cases hij : j = i
    · subst hij
      rw [if_pos rfl] at hi
      split at hi
      · injection hi with hi; subst hi
        have e1 : (l ++ [x]).length = m + 1 := by simp [hm]
        show World.ownsRow _ _ _ _ _ (l ++ [x]).length (ints (l ++ [x]))
        rw [e1]; exact hr2
      · cases hi
    · rw [if_neg hij] at hi
      have hzi := h.ls.each z (List.mem_of_getElem? hi)
      have k1 := hzi.kept hg (h.apart i j z _ (fun e => hij e.symm) hi hz)
      exact k1.kept st.2 (own_types k1 row1 intT)
  · have off : ∀ (i' : Nat) (z' : Kd) (gg : Nat), i' ≠ j → zs[i']? = some z' → z'.1.ownBlock = some gg → Off A' gg := fun i' z' gg hij hz' hb => by
      refine ho gg (fun b o s ea => ?_) ((h.ls.each z' (List.mem_of_getElem? hz')).lt gg hb).2
      rcases h.apart i' j z' _ hij hz' hz with h1 | h1
      · rw [h1] at hb; cases hb
      · rw [hb, ea] at h1
        simp only [Value.ownBlock] at h1
        exact fun e => h1 (by rw [e])
    rw [List.getElem?_set] at hi hk
    by_cases hij : j = i
    · subst hij
      rw [if_pos rfl] at hi
      rw [if_neg hik] at hk
      split at hi
      · injection hi with hi; subst hi
        cases hb : zk.1.ownBlock with
        | none =>
          cases hb2 : Value.ownBlock (.slice A' (m + 1) e') with
          | none => exact .inl rfl
          | some _ => exact .inr (by simp)
        | some gg =>
          have := off k zk gg (fun e => hik e.symm) hk hb
          exact this.row
      · cases hi
    · rw [if_neg hij] at hi
      by_cases hkj : j = k
      · subst hkj
        rw [if_pos rfl] at hk
        split at hk
        · injection hk with hk; subst hk
          cases hb : zi.1.ownBlock with
          | none => exact .inl rfl
          | some gg =>
            right
            have := off i zi gg (fun e => hij e.symm) hi hb
            rcases this.row (m := m + 1) (c := e') with h1 | h1
            · show some gg ≠ Value.ownBlock (.slice A' (m + 1) e')
              rw [h1]; simp
            · exact fun e => h1 e.symm
        · cases hk
      · rw [if_neg hkj] at hk
        exact h.apart i k zi zk hik hi hk
/-- A list of lists of new memory, and whether there is one. -/
def GrpPost (R : List (List Int)) (ok : Bool) (w : World) (e : Ending) (w' : World) : Prop :=
  ∃ (A : Option Addr) (m c : Nat) (zs : List Kd), e = .returned (.tuple #[.slice A m c, .bool ok]) ∧ zs.map Prod.snd = R ∧ zs.length = m ∧ Lists w' w.heap.size (.slice A m c) zs ∧ Ext w w'
theorem snd_get {zs : List Kd} {ls : List (List Int)} (h : zs.map Prod.snd = ls) {k : Nat} {z : Kd} (hz : zs[k]? = some z) : ls[k]? = some z.2 := by
  rw [← h, List.getElem?_map, hz]; rfl
end Go.Proofs.YtoafaejhabjlnaaDoor
