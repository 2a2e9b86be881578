/- The compatible ones out of a list of kinds: slices.IndexFunc, slices.DeleteFunc. -/
import Derived.Test.YtekggbmpogmlcaaDoorLists
import Derived.Lib.SliceRun
namespace Go.Proofs.YtekggbmpogmlcaaDoor
open Go.RowKit
set_option linter.unusedVariables false
set_option linter.unusedSimpArgs false
attribute [local go_sem] ExtOf.cell

abbrev Kd := Value × List Int
def goodZ (bs : List Ban) (z : Kd) : Bool := freeOf bs z.2
def badZ (bs : List Ban) (z : Kd) : Bool := !(freeOf bs z.2)
theorem firstAt_cases {α : Type} (p : α → Bool) (xs : List α) : (firstAt p xs = -1 ∧ noneTo p xs xs.length) ∨ ∃ (k : Nat) (x : α), k < xs.length ∧ firstAt p xs = k ∧ xs[k]? = some x ∧ p x = true ∧ noneTo p xs k := by
  unfold firstAt
  cases h : xs.findIdx? p with
  | none =>
    rw [List.findIdx?_eq_none_iff] at h
    exact .inl ⟨rfl, fun x hx => h x (List.mem_of_mem_take hx)⟩
  | some i =>
    rw [List.findIdx?_eq_some_iff_getElem] at h
    obtain ⟨hi, hp, hno⟩ := h
    refine .inr ⟨i, xs[i], hi, rfl, List.getElem?_eq_getElem hi, hp, fun x hx => ?_⟩
    obtain ⟨j, hj, rfl⟩ := List.mem_take_iff_getElem.1 hx
    have := hno j (by omega)
    simpa using this
theorem own_prefix {w : World} {base T size n g c i : Nat} {cs : List Value} (h : w.ownsRow base T size (.slice (some ⟨g, 0, none⟩) n c) n cs) (hi : i ≤ n) : w.ownsRow base T size (.slice (some ⟨g, 0, none⟩) i c) i (cs.take (i * size)) := by
  have hm : i * size ≤ n * size := Nat.mul_le_mul_right _ hi
  refine ⟨by rw [List.length_take, h.1]; omega, ?_⟩
  rcases h.2 with ⟨h1, _⟩ | ⟨g', cap, cur, h1, h2, h3, h4, h5, h6, h7⟩
  · cases h1
  · injection h1 with e1 _ e3
    injection e1 with e1; injection e1 with e1
    subst e1; subst e3
    refine .inr ⟨g, c, cur, rfl, h2, h3, by omega, h5, h6, ?_⟩
    rw [← h7, List.take_take, Nat.min_eq_left hm]
set_option maxRecDepth 100000 in
set_option maxHeartbeats 1000000 in
theorem kinds1_any (g b0 : Nat) (A : Option Addr) (n c : Nat) (B : Option Addr) (m d : Nat) (ss : List Int) (bs : List Ban) (K : Option Addr) (e : Nat) (ks : List Int) (w : World) (h : TabL w A n B m ss bs) (c0 : w.cell? ⟨b0, 0, none⟩ = some (.pointer (some ⟨g, 0, none⟩))) (p1 : w.cell? ⟨g, 1, none⟩ = some (.slice B m d)) (hf : ∀ b ∈ bs, banFits ss b = true) (hl : ks.length = n) (hk : Rd w K n 1 (ints ks)) :
    Calls Tryd.prog 40 #[.slice K n e, .pointer (some ⟨b0, 0, none⟩)] w fun e w' => e = .returned (.bool (!(freeOf bs ks))) ∧ Ext w w' := by
  have C := Lib.hid (compatible_any g A n c B m d ss bs K e ks w h p1 hf hl hk)
  have hg : g < w.heap.size := World.block_lt_of_cell? w _ p1
  have hb0 : b0 < w.heap.size := World.block_lt_of_cell? w _ c0
  clear hf hl hk
  go_enter Tryd.func40, Tryd.ntmps40
  go_wp2_with (go_at_call 27; refine C.out.mono ?_; rintro e wa ⟨rfl, he1⟩)
  go_ret
  exact ⟨rfl, he1⟩
set_option maxRecDepth 100000 in
set_option maxHeartbeats 1000000 in
theorem IndexBad_any (g b0 : Nat) (A : Option Addr) (n c : Nat) (B : Option Addr) (m d : Nat) (ss : List Int) (bs : List Ban) (O : Option Addr) (q oc base : Nat) (zs : List Kd) (w : World) (h : TabL w A n B m ss bs) (c0 : w.cell? ⟨b0, 0, none⟩ = some (.pointer (some ⟨g, 0, none⟩))) (p1 : w.cell? ⟨g, 1, none⟩ = some (.slice B m d)) (hf : ∀ b ∈ bs, banFits ss b = true) (hz : Lists w base (.slice O q oc) zs) (hq : zs.length = q) (hl : ∀ z ∈ zs, z.2.length = n) :
    Calls Tryd.prog 56 #[.slice O q oc, .func (.func 40) #[] #[.pointer (some ⟨b0, 0, none⟩)]] w fun e w' => e = .returned (.int .i64 (firstAt (badZ bs) zs)) ∧ Ext w w' := by
  have C := Lib.hid (fun (K : Option Addr) (e : Nat) (ks : List Int) (w' : World) (he : Ext w w') (hl : ks.length = n) (hk : Rd w' K n 1 (ints ks)) => kinds1_any g b0 A n c B m d ss bs K e ks w' (h.ext he) (he.cell1 c0) (he.cell1 p1) hf hl hk)
  have HL := Lib.hid hl
  have hcap := own_cap hz.row
  rw [hq] at hcap
  unfold maxLen at hcap
  clear c0 p1 hf hl
  go_enter Tryd.func56, Tryd.ntmps56
  go_wp2
  go_loopw [8] (fun i wr => ∃ k : Nat, k ≤ q ∧ i = .int .i64 k ∧ noneTo (badZ bs) zs k ∧ Ext w wr) (fun i _ => q - (intOf i).toNat)
  case atStart => exact ⟨0, Nat.zero_le _, rfl, noneTo_zero _ _, Ext.refl _⟩
  case round =>
    obtain ⟨k, hk, rfl, hno, he⟩ := hrel
    have HN := Lib.hid hno
    clear hno
    by_cases hlt : k < q
    · obtain ⟨o, K, e, ks, rfl, ho, hx, g0, hown⟩ := (hz.ext he).get hlt hq
      have hkn := HL.out _ (List.mem_of_getElem? hx.out)
      dsimp only at hkn
      rw [hkn] at g0 hown
      have C1 := Lib.hid (C.out K e ks wr he hkn (Rd.own hown))
      have HB := Lib.hid (show badZ bs (.slice K ks.length e, ks) = !(freeOf bs ks) from rfl)
      clear hown
      cases ht : freeOf bs ks
      · have hb := Lib.hid (HB.out.trans (show _ = true by rw [ht]; rfl))
        go_wp2_with (go_at_call 40; refine C1.out.mono ?_; rintro e wa ⟨rfl, he1⟩; rw [ht])
        go_ret
        exact ⟨ret_int (firstAt_hit HN.out hx.out hb.out).symm, he.trans he1⟩
      · have hb := Lib.hid (HB.out.trans (show _ = false by rw [ht]; rfl))
        go_wp2_with (go_at_call 40; refine C1.out.mono ?_; rintro e wa ⟨rfl, he1⟩; rw [ht])
        go_roundw
        case rel => exact ⟨k + 1, by omega, by go_num, noneTo_succ HN.out hx.out hb.out, he.trans he1⟩
        case measure => simp [intOf]; omega
    · obtain rfl : k = q := by omega
      go_wp2
      go_ret
      exact ⟨ret_int (firstAt_miss (by omega) HN.out).symm, he⟩
/-- The row while its bad elements are struck: a elements kept of the first b. -/
structure DelI (bs : List Ban) (zs : List Kd) (a b : Nat) (cur : List Value) : Prop where
  le : a < b
  le2 : b ≤ zs.length
  kept : ((zs.take b).filter (goodZ bs)).length = a
  len : cur.length = zs.length
  head : cur.take a = ((zs.take b).filter (goodZ bs)).map Prod.fst
  tail : cur.drop b = (zs.drop b).map Prod.fst
theorem DelI.start {bs : List Ban} {zs : List Kd} {k : Nat} {x : Kd} (hx : zs[k]? = some x) (hb : badZ bs x = true) (hno : noneTo (badZ bs) zs k) : DelI bs zs k (k + 1) (zs.map Prod.fst) := by
  have hk : k < zs.length := (List.getElem?_eq_some_iff.1 hx).1
  have hf : (zs.take (k + 1)).filter (goodZ bs) = zs.take k := by
    rw [take_snoc hx, List.filter_append]
    have h1 : (zs.take k).filter (goodZ bs) = zs.take k := List.filter_eq_self.2 (fun z hz => by
      have := hno z hz; unfold badZ at this; unfold goodZ; simpa using this)
    have h2 : goodZ bs x = false := by unfold badZ at hb; unfold goodZ; simpa using hb
    rw [h1]; simp [h2]
  refine ⟨by omega, by omega, ?_, by simp, ?_, by simp⟩
  · rw [hf, List.length_take]; omega
  · rw [hf]; simp
theorem DelI.cell {bs : List Ban} {zs : List Kd} {a b : Nat} {cur : List Value} (h : DelI bs zs a b cur) {z : Kd} (hz : zs[b]? = some z) : cur[b]? = some z.1 := by
  have h1 : (cur.drop b)[0]? = ((zs.drop b).map Prod.fst)[0]? := by rw [h.tail]
  simp only [List.getElem?_drop, List.getElem?_map, Nat.add_zero] at h1
  rw [h1, hz]; rfl
theorem drop_step {α : Type} {l m : List α} {b : Nat} (h : l.drop b = m.drop b) : l.drop (b + 1) = m.drop (b + 1) := by
  rw [← List.drop_drop, ← List.drop_drop, h]
theorem DelI.keep {bs : List Ban} {zs : List Kd} {a b : Nat} {cur : List Value} (h : DelI bs zs a b cur) {z : Kd} (hz : zs[b]? = some z) (hg : goodZ bs z = true) : DelI bs zs (a + 1) (b + 1) (cur.set a z.1) := by
  have hb : b < zs.length := (List.getElem?_eq_some_iff.1 hz).1
  have hf : (zs.take (b + 1)).filter (goodZ bs) = (zs.take b).filter (goodZ bs) ++ [z] := by rw [take_snoc hz, List.filter_append]; simp [hg]
  have ht : cur.drop (b + 1) = (zs.drop (b + 1)).map Prod.fst := by
    have := h.tail; rw [List.map_drop] at this; rw [List.map_drop]; exact drop_step this
  have hab := h.le
  have hl := h.len
  refine ⟨by omega, by omega, by rw [hf, List.length_append, h.kept]; rfl, by simp [hl], ?_, ?_⟩
  · rw [hf, List.map_append, ← h.head, take_snoc (l := cur.set a z.1) (k := a) (x := z.1) (by rw [List.getElem?_set_self (by omega)])]
    rw [List.take_set_of_le (Nat.le_refl _)]; rfl
  · rw [List.drop_set_of_lt (by omega)]; exact ht
theorem DelI.skip {bs : List Ban} {zs : List Kd} {a b : Nat} {cur : List Value} (h : DelI bs zs a b cur) {z : Kd} (hz : zs[b]? = some z) (hg : goodZ bs z = false) : DelI bs zs a (b + 1) cur := by
  have hb : b < zs.length := (List.getElem?_eq_some_iff.1 hz).1
  have hf : (zs.take (b + 1)).filter (goodZ bs) = (zs.take b).filter (goodZ bs) := by rw [take_snoc hz, List.filter_append]; simp [hg]
  have ht : cur.drop (b + 1) = (zs.drop (b + 1)).map Prod.fst := by
    have := h.tail; rw [List.map_drop] at this; rw [List.map_drop]; exact drop_step this
  have hab := h.le
  exact ⟨by omega, by omega, by rw [hf]; exact h.kept, h.len, by rw [hf]; exact h.head, ht⟩
theorem setL_take : ∀ (vs : List Value) (a : Nat) (cur : List Value), (setL cur a vs).take a = cur.take a
  | [], a, cur => rfl
  | v :: r, a, cur => by
    rw [setL]
    have := setL_take r (a + 1) (cur.set a v)
    have h2 : ((setL (cur.set a v) (a + 1) r).take (a + 1)).take a = ((cur.set a v).take (a + 1)).take a := by rw [this]
    rw [List.take_take, List.take_take, Nat.min_eq_left (by omega), List.take_set_of_le (Nat.le_refl _)] at h2
    exact h2
set_option maxRecDepth 100000 in
set_option maxHeartbeats 2000000 in
theorem DeleteBad_any (g b0 : Nat) (A : Option Addr) (n c : Nat) (B : Option Addr) (m d : Nat) (ss : List Int) (bs : List Ban) (o q oc : Nat) (zs : List Kd) (w0 w : World) (E0 : Ext w0 w) (h : TabL w0 A n B m ss bs) (c0 : w0.cell? ⟨b0, 0, none⟩ = some (.pointer (some ⟨g, 0, none⟩))) (p1 : w0.cell? ⟨g, 1, none⟩ = some (.slice B m d)) (hf : ∀ b ∈ bs, banFits ss b = true) (hz : Lists w w0.heap.size (.slice (some ⟨o, 0, none⟩) q oc) zs) (hq : zs.length = q) (hl : ∀ z ∈ zs, z.2.length = n) :
    Calls Tryd.prog 39 #[.slice (some ⟨o, 0, none⟩) q oc, .func (.func 40) #[] #[.pointer (some ⟨b0, 0, none⟩)]] w fun e w' => ∃ k, e = .returned (.slice (some ⟨o, 0, none⟩) k oc) ∧ (zs.filter (goodZ bs)).length = k ∧ Lists w' w0.heap.size (.slice (some ⟨o, 0, none⟩) k oc) (zs.filter (goodZ bs)) ∧ Ext w0 w' := by
  have CI := Lib.hid (IndexBad_any g b0 A n c B m d ss bs (some ⟨o, 0, none⟩) q oc _ zs w (h.ext E0) (E0.cell1 c0) (E0.cell1 p1) hf hz hq hl)
  have C := Lib.hid (fun (K : Option Addr) (e : Nat) (ks : List Int) (w' : World) (he : Ext w0 w') (hl : ks.length = n) (hk : Rd w' K n 1 (ints ks)) => kinds1_any g b0 A n c B m d ss bs K e ks w' (h.ext he) (he.cell1 c0) (he.cell1 p1) hf hl hk)
  have hcap := own_cap hz.row
  have hoc : q ≤ oc ∧ oc ≤ maxLen := by
    rcases hz.row.2 with ⟨h1, _⟩ | ⟨g', cap, cur, h1, _, _, h4, h5, _⟩
    · cases h1
    · injection h1 with _ _ e3; omega
  have hob : w0.heap.size ≤ o := (hz.row.lt _ rfl).1
  rw [hq] at hcap
  unfold maxLen at hcap hoc
  have HL := Lib.hid hl
  rcases firstAt_cases (badZ bs) zs with ⟨hv, hno⟩ | ⟨k0, x0, hk0, hv, hx0, hb, hno⟩
  · rw [hv] at CI
    have hfil : zs.filter (goodZ bs) = zs := List.filter_eq_self.2 (fun z hz' => by
      have := hno z (by rw [List.take_length]; exact hz')
      unfold badZ at this; unfold goodZ; simpa using this)
    rw [hfil]
    clear hv hno hfil c0 p1 hf hl
    go_enter Tryd.func39, Tryd.ntmps39
    go_wp2_with (go_at_call 56; refine CI.out.mono ?_; rintro e wa ⟨rfl, he1⟩)
    go_ret
    exact ⟨q, rfl, hq, hz.ext he1, E0.trans he1⟩
  · rw [hv] at CI
    have HI0 := Lib.hid (DelI.start hx0 hb hno)
    have HZ := Lib.hid hz
    clear hv hx0 hb hno c0 p1 hf hl hz
    have hkq : k0 < q := by omega
    have hk1 : ((k0 : Int) == -1) = false := beq_eq_false_iff_ne.2 (by omega)
    have hk2 : decide ((k0 : Int) = -1) = false := by simp
    go_enter Tryd.func39, Tryd.ntmps39
    go_wp2_with (go_at_call 56; refine CI.out.mono ?_; rintro e wa ⟨rfl, he1⟩)
    go_loopw [5, 6] (fun i j wr => ∃ (a b : Nat) (cur : List Value), i = .int .i64 a ∧ j = .int .i64 b ∧ DelI bs zs a b cur ∧ wr.ownsRow w0.heap.size 24 1 (.slice (some ⟨o, 0, none⟩) q oc) q cur ∧ (∀ z ∈ zs, wr.ownsRow w0.heap.size 3 1 z.1 z.2.length (ints z.2)) ∧ Ext w0 wr) (fun _ j _ => q - (intOf j).toNat)
    case atStart => exact ⟨k0, k0 + 1, _, rfl, by go_num, HI0.out, by (have h := (HZ.out.ext he1).row; rw [hq] at h; exact h), (HZ.out.ext he1).each, E0.trans he1⟩
    case round =>
      obtain ⟨a, b, cur, rfl, rfl, hI, ho, heach, he⟩ := hrel
      have hab := hI.le
      have hbq : b ≤ q := by rw [← hq]; exact hI.le2
      have HI := Lib.hid hI
      have HE := Lib.hid heach
      clear hI heach HI0
      by_cases hlt : b < q
      · obtain ⟨z, hzb⟩ : ∃ z, zs[b]? = some z := ⟨_, List.getElem?_eq_getElem (by omega)⟩
        have hzm := List.mem_of_getElem? hzb
        have hown := HE.out z hzm
        have hzl := HL.out z hzm
        rw [hzl] at hown
        obtain ⟨K, e, hv⟩ := own_slice hown
        have hcj := own_at ho (HI.out.cell hzb)
        rw [hv] at hcj hown
        have C1 := Lib.hid (C.out K e z.2 wr he hzl (Rd.own hown))
        have HO := Lib.hid ho
        have HZB := Lib.hid hzb
        have HV := Lib.hid hv
        have hlo : o < wr.heap.size := (ho.lt _ rfl).2
        clear hown hzb hv ho hzm
        cases ht : freeOf bs z.2
        · have hs := Lib.hid (HI.out.skip HZB.out ht)
          go_wp2_with (go_at_call 40; refine C1.out.mono ?_; rintro e wb ⟨rfl, he2⟩; rw [ht])
          go_roundw
          case rel => exact ⟨a, b + 1, cur, rfl, by go_num, hs.out, he2.own HO.out, fun y hy => he2.own (HE.out y hy), he.trans he2⟩
          case measure => simp [intOf]; omega
        · have hs := Lib.hid (HI.out.keep HZB.out ht)
          go_wp2_with (go_at_call 40; refine C1.out.mono ?_; rintro e wb ⟨rfl, he2⟩; rw [ht]; have hf1 := (he2.own HO.out).frozenAt a; obtain ⟨u1, hu1⟩ := own_cell (j := a) (he2.own HO.out) (by omega))
          go_roundw
          case rel =>
            have hst := (he2.own HO.out).stored a (.slice K n e)
            have hs2 := hs.out
            rw [HV.out] at hs2
            exact ⟨a + 1, b + 1, _, by go_num, by go_num, hs2, hst.1, fun y hy => ((he2.own (HE.out y hy)).kept hst.2 (own_types (he2.own (HE.out y hy)) (he2.own HO.out) intT)), (he.trans he2).row hst.2 hob⟩
          case measure => simp [intOf]; omega
      · obtain rfl : b = q := by omega
        have hcl : ∀ ty, (Builtin.clear_ #[44] ty #[.slice (some ⟨o, a, none⟩) (b - a) (oc - a)]).run Tryd.prog wr = .ok (.tuple #[]) (wr.setCells o a (List.replicate (b - a) (.slice none 0 0))) :=
          fun ty => Lib.run_clear_slice wr _ _ ty _ Tryd.underlying44 Tryd.zeroValue24 rfl rfl o a _ _ (by omega) (fun t ht => by obtain ⟨u, hu⟩ := own_cell (j := a + t) ho (by omega); rw [hu]; rfl) (fun t ht => ho.frozenAt _)
        have HO := Lib.hid ho
        clear ho
        go_wp2
        go_ret
        obtain ⟨h1, h2⟩ := own_setCells (List.replicate (b - a) (.slice none 0 0)) a _ _ HO.out
        have hI := HI.out
        have hall : zs.take b = zs := List.take_of_length_le (by omega)
        have hk := hI.kept
        have hh := hI.head
        rw [hall] at hk hh
        refine ⟨a, rfl, hk, ⟨?_, fun z hz => ?_⟩, he.row h2 hob⟩
        · have h3 := own_prefix h1 (show a ≤ b by omega)
          rw [Nat.mul_one, setL_take, hh] at h3
          rw [hk]; exact h3
        · have hm := (List.mem_filter.1 hz).1
          exact (HE.out z hm).kept h2 (own_types (HE.out z hm) HO.out intT)
end Go.Proofs.YtekggbmpogmlcaaDoor