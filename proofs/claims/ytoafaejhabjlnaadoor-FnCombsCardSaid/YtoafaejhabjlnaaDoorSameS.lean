/- SameGauges: the reference's entry. -/
import Derived.Test.YtoafaejhabjlnaaDoorSameI
namespace Go.Proofs.YtoafaejhabjlnaaDoor
open Go.RowKit
set_option linter.unusedVariables false
set_option linter.unusedSimpArgs false
attribute [local go_sem] ExtOf.cell

def minN (a b : Nat) : Nat := if a ≤ b then a else b
theorem any_snoc {p : Comb → Bool} {xs : List Comb} {k : Nat} {y : Comb} (hy : xs[k]? = some y) : (xs.take (k + 1)).any p = ((xs.take k).any p || p y) := by
  obtain ⟨hk, rfl⟩ := List.getElem?_eq_some_iff.1 hy
  rw [List.take_succ_eq_append_getElem hk, List.any_append]
  simp
/-- None of the combs ahead of number k, as far as they have been seen, has the gauges of x. -/
def fst (xs : List Comb) (x : Comb) (k j : Nat) : Bool := !((xs.take (minN j k)).any (same x))
theorem fst_zero (xs : List Comb) (x : Comb) (k : Nat) : fst xs x k 0 = true := by
  have : minN 0 k = 0 := by unfold minN; rw [if_pos (Nat.zero_le k)]
  simp [fst, this]
theorem fst_no {xs : List Comb} {x y : Comb} {k j : Nat} (hy : xs[j]? = some y) (hs : same x y = false) : fst xs x k (j + 1) = fst xs x k j := by
  unfold fst minN
  by_cases h : j + 1 ≤ k
  · rw [if_pos h, if_pos (by omega), any_snoc hy, hs, Bool.or_false]
  · rw [if_neg h]
    by_cases h2 : j ≤ k
    · obtain rfl : j = k := by omega
      rw [if_pos h2]
    · rw [if_neg h2]
theorem fst_yes {xs : List Comb} {x y : Comb} {k j : Nat} (hy : xs[j]? = some y) (hs : same x y = true) : fst xs x k (j + 1) = (fst xs x k j && decide ((k : Int) ≤ (j : Int))) := by
  unfold fst minN
  by_cases h : j + 1 ≤ k
  · have h9 : decide ((k : Int) ≤ (j : Int)) = false := by simp; omega
    rw [if_pos h, any_snoc hy, hs, h9]
    simp
  · have h9 : decide ((k : Int) ≤ (j : Int)) = true := by simp; omega
    rw [if_neg h, h9, Bool.and_true]
    by_cases h2 : j ≤ k
    · obtain rfl : j = k := by omega
      rw [if_pos h2]
    · rw [if_neg h2]
theorem fst_end {xs : List Comb} {x : Comb} {k n : Nat} (h : k ≤ n) : fst xs x k n = !((firstsOf (xs.take k)).any (same x)) := by
  unfold fst minN
  rw [firsts_any]
  by_cases h2 : n ≤ k
  · obtain rfl : n = k := by omega
    rw [if_pos h2]
  · rw [if_neg h2]
/-- The groups whose first comb is among the first k. -/
def outS (xs : List Comb) (k : Nat) : List (List Int) := (firstsOf (xs.take k)).map fun y => idsOf (same y) xs
theorem outS_no {xs : List Comb} {k : Nat} {x : Comb} (hx : xs[k]? = some x) (h : (firstsOf (xs.take k)).any (same x) = true) : outS xs (k + 1) = outS xs k := by
  unfold outS; rw [firsts_succ hx, stepF, if_pos h]
theorem outS_yes {xs : List Comb} {k : Nat} {x : Comb} (hx : xs[k]? = some x) (h : (firstsOf (xs.take k)).any (same x) = false) : outS xs (k + 1) = outS xs k ++ [idsOf (same x) xs] := by
  unfold outS; rw [firsts_succ hx, stepF, h]; simp
theorem outS_end {xs : List Comb} {n : Nat} (h : xs.length = n) : outS xs n = grps xs xs.length := by
  rw [grps_full]; unfold outS; rw [List.take_of_length_le (Nat.le_of_eq h)]
set_option maxRecDepth 100000 in
set_option maxHeartbeats 8000000 in
theorem SameGaugesS_any (A : Option Addr) (n c : Nat) (xs : List Comb) (w : World) (h : CombL w A n xs) :
    Calls Tryd.prog 13 #[.slice A n c] w (GrpPost (sameR xs) (CombsOk xs) w) := by
  have e0 := (Ext.refl w).alloc (.cells #[] 27)
  cases ha : CombsOk xs
  · rw [show sameR xs = [] by simp [sameR, ha]]
    go_enter Tryd.func13, Tryd.ntmps13
    go_wp2_with (go_at_call 35; refine (l5Good_any A n c xs _ (h.ext e0)).mono ?_; rintro e wa ⟨rfl, he1⟩; rw [ha])
    go_ret2
    exact ⟨_, 0, 0, [], rfl, rfl, rfl, ⟨he1.own (own_empty w _ _ _ (Nat.le_refl _)), fun z hz => by cases hz⟩, e0.trans he1⟩
  · rw [show sameR xs = grps xs xs.length by simp [sameR, ha]]
    have hsm := h.small
    go_enter Tryd.func13, Tryd.ntmps13
    go_wp2_with (go_at_call 35; refine (l5Good_any A n c xs _ (h.ext e0)).mono ?_; rintro e wa ⟨rfl, he1⟩; rw [ha])
    have L0 := Lib.hid (show Lists wa w.heap.size (.slice (some ⟨w.heap.size, 0, none⟩) 0 0) [] from ⟨he1.own (own_empty w _ _ _ (Nat.le_refl _)), fun z hz => by cases hz⟩)
    have E0 := Lib.hid (e0.trans he1)
    clear e0 he1
    go_loopw [4, 5] (fun o i wr => ∃ (k m oc : Nat) (O : Option Addr) (zs : List Kd), k ≤ n ∧ i = .int .i64 k ∧ o = .slice O m oc ∧ m ≤ k ∧ Hid (zs.map Prod.snd = outS xs k) ∧ Hid (zs.length = m) ∧ Lists wr w.heap.size (.slice O m oc) zs ∧ Ext w wr) (fun _ i _ => n - (intOf i).toNat)
    case atStart => exact ⟨0, 0, 0, _, [], Nat.zero_le _, rfl, rfl, Nat.le_refl _, rfl, rfl, L0.out, E0.out⟩
    case round =>
      obtain ⟨k, m, oc, O, zs, hk, rfl, rfl, hmk, hzs, hzl, hls, he⟩ := hrel
      have LS := Lib.hid hls
      have EW := Lib.hid he
      clear hls he L0 E0
      by_cases hlt : k < n
      · obtain ⟨b, off', x, eA, hb, hx, g0, g1, g2, g3⟩ := (h.ext EW.out).at_ hlt
        subst eA
        have HX := Lib.hid hx.out
        have HG1 := Lib.hid g1
        have HG2 := Lib.hid g2
        have OI := Lib.hid (own_empty wr wr.heap.size 3 1 (Nat.le_refl _))
        have ZL := Lib.hid (fst_zero xs x k)
        obtain ⟨wo, rfl⟩ : ∃ wo : World, wo = wr := ⟨_, rfl⟩
        clear g0 g1 g2 g3 hx
        go_wp2
        go_loopw [6, 7, 8] (fun d f i wr => ∃ (j s ic : Nat) (I : Option Addr) (l : List Int) (fb : Bool), j ≤ n ∧ i = .int .i64 j ∧ d = .slice I s ic ∧ f = .bool fb ∧ s ≤ j ∧ Hid (l = idsOf (same x) (xs.take j)) ∧ Hid (fst xs x k j = fb) ∧ wr.ownsRow wo.heap.size 3 1 (.slice I s ic) s (ints l) ∧ Ext wo wr) (fun _ _ i _ => n - (intOf i).toNat)
        case atStart => exact ⟨0, 0, 0, _, [], true, Nat.zero_le _, rfl, rfl, rfl, Nat.le_refl _, rfl, ZL.out, OI.out, (Ext.refl _).alloc _⟩
        case round =>
          obtain ⟨j, s, ic, I, l, fb, hj, rfl, rfl, rfl, hsj, hl, hf, ho, he⟩ := hrel
          have HO := Lib.hid ho
          have EI := Lib.hid he
          have HF := Lib.hid hf.out
          clear ho he hf OI ZL
          by_cases hlj : j < n
          · obtain ⟨b2, off2, y, eA, hb2, hy, g0, g1, g2, g3⟩ := (h.ext (EW.out.trans EI.out)).at_ hlj
            injection eA with eA
            injection eA with e1 e2
            subst e1; subst e2
            have x1 := EI.out.cell1 HG1.out
            have x2 := EI.out.cell1 HG2.out
            have HG0 := Lib.hid g0
            have hs2 : same x y = ((y.Wide == x.Wide) && (y.High == x.High)) := by rw [same_symm]; rfl
            cases h1 : (y.Wide == x.Wide)
            · have hn := Lib.hid (ids_no (p := same x) hy.out (by rw [hs2, h1]; rfl))
              have hfn := Lib.hid ((fst_no (k := k) hy.out (by rw [hs2, h1]; rfl)).trans HF.out)
              have d1 : decide (y.Wide = x.Wide) = false := by simpa using h1
              clear hy hs2
              go_wp2
              (refine wp_region_ext_lit (by kernel_rfl) (by kernel_rfl) ?_; (repeat (go_big_quiet_step ((fail)))); refine wpQuiet_nil ?_; rintro wq ⟨⟨_, heq⟩, rfl⟩; (try dsimp only))
              have EQ := Lib.hid (EI.out.trans heq)
              have HOQ := Lib.hid (heq.own HO.out)
              go_wp2
              go_roundw
              case rel => exact ⟨j + 1, s, ic, I, l, fb, by omega, by go_num, rfl, rfl, by omega, hl.trans hn.out.symm, hfn.out, HOQ.out, EQ.out⟩
              case measure => simp [intOf]; omega
            · have d1 : decide (y.Wide = x.Wide) = true := by simpa using h1
              cases h2 : (y.High == x.High)
              · have hn := Lib.hid (ids_no (p := same x) hy.out (by rw [hs2, h1, h2]; rfl))
                have hfn := Lib.hid ((fst_no (k := k) hy.out (by rw [hs2, h1, h2]; rfl)).trans HF.out)
                have d2 : decide (y.High = x.High) = false := by simpa using h2
                clear hy hs2
                go_wp2
                (refine wp_region_ext_lit (by kernel_rfl) (by kernel_rfl) ?_; (repeat (go_big_quiet_step ((fail)))); refine wpQuiet_nil ?_; rintro wq ⟨⟨_, heq⟩, rfl⟩; (try dsimp only))
                have EQ := Lib.hid (EI.out.trans heq)
                have HOQ := Lib.hid (heq.own HO.out)
                go_wp2
                go_roundw
                case rel => exact ⟨j + 1, s, ic, I, l, fb, by omega, by go_num, rfl, rfl, by omega, hl.trans hn.out.symm, hfn.out, HOQ.out, EQ.out⟩
                case measure => simp [intOf]; omega
              · have hn := Lib.hid (ids_yes (p := same x) hy.out (by rw [hs2, h1, h2]; rfl))
                have hfn := Lib.hid (fst_yes (k := k) hy.out (by rw [hs2, h1, h2]; rfl))
                rw [HF.out] at hfn
                have d2 : decide (y.High = x.High) = true := by simpa using h2
                clear hy hs2
                go_wp2
                (refine wp_region_ext_lit (by kernel_rfl) (by kernel_rfl) ?_; (repeat (go_big_quiet_step ((fail)))); refine wpQuiet_nil ?_; rintro wq ⟨⟨_, heq⟩, rfl⟩; (try dsimp only))
                have EQ := Lib.hid (EI.out.trans heq)
                have HOQ := Lib.hid (heq.own HO.out)
                have q0 := heq.cell1 HG0.out
                have hbq : b < wq.heap.size := World.block_lt_of_cell? wq _ q0
                clear heq g0 g1 g2 g3 x1 x2 hb2
                cases fb
                · go_wp2_with (at_builtin; refine app_int rfl _ _ rfl wo.heap.size s ic wq.heap.size I l y.Id rfl rfl (((Ext.refl wq).alloc (.cells #[.int .i64 y.Id] 3)).own HOQ.out) (new_cell _ _ _ 0 _ rfl) (by omega) (Nat.le_trans EQ.out.size (((Ext.refl wq).alloc (.cells #[.int .i64 y.Id] 3)).size)) ?_; intro I' ic' w' hown hgrow hoff)
                  have HE := Lib.hid ((EQ.out.alloc (.cells #[.int .i64 y.Id] 3)).grown hgrow (fun k hk => (HOQ.out.lt k hk).1))
                  have HW := Lib.hid hown
                  have HN := Lib.hid (show l ++ [y.Id] = idsOf (same x) (xs.take (j + 1)) from by rw [hn.out, hl.out])
                  clear hown hgrow hoff q0 hbq
                  go_roundw
                  case rel => exact ⟨j + 1, s + 1, ic', I', _, false, by omega, by go_num, rfl, rfl, by omega, HN.out, by rw [hfn.out]; rfl, HW.out, HE.out⟩
                  case measure => simp [intOf]; omega
                · go_wp2_with (at_builtin; refine app_int rfl _ _ rfl wo.heap.size s ic wq.heap.size I l y.Id rfl rfl (((Ext.refl wq).alloc (.cells #[.int .i64 y.Id] 3)).own HOQ.out) (new_cell _ _ _ 0 _ rfl) (by omega) (Nat.le_trans EQ.out.size (((Ext.refl wq).alloc (.cells #[.int .i64 y.Id] 3)).size)) ?_; intro I' ic' w' hown hgrow hoff)
                  have HE := Lib.hid ((EQ.out.alloc (.cells #[.int .i64 y.Id] 3)).grown hgrow (fun k hk => (HOQ.out.lt k hk).1))
                  have HW := Lib.hid hown
                  have HN := Lib.hid (show l ++ [y.Id] = idsOf (same x) (xs.take (j + 1)) from by rw [hn.out, hl.out])
                  clear hown hgrow hoff q0 hbq
                  go_roundw
                  case rel => exact ⟨j + 1, s + 1, ic', I', _, _, by omega, by go_num, rfl, rfl, by omega, HN.out, (show fst xs x k (j + 1) = _ from by rw [hfn.out]; simp), HW.out, HE.out⟩
                  case measure => simp [intOf]; omega
          · obtain rfl : j = n := by omega
            have hls : l = idsOf (same x) xs := hl.out.trans (ids_end h.len)
            have hend := HF.out.symm.trans (fst_end (xs := xs) (x := x) hk)
            have hll : l.length = s := by have := HO.out.1; rw [ints_length] at this; omega
            have HLL := Lib.hid hll
            have HLS := Lib.hid hls
            clear hll hls
            cases hany : (firstsOf (xs.take k)).any (same x)
            · rw [hany] at hend
              have hfb : fb = true := hend
              subst hfb
              have HOut := Lib.hid (outS_yes HX.out hany)
              clear hany hend HF
              have hrow := (LS.out.ext EI.out).row
              rw [hzl.out] at hrow
              have HR := Lib.hid (((Ext.refl wr).alloc (.cells #[.slice I s ic] 27)).own hrow)
              clear hrow
              have hsz : wo.heap.size ≤ wr.heap.size := EI.out.size
              have hsw : w.heap.size ≤ wo.heap.size := EW.out.size
              go_wp2_with (at_builtin; refine app_sl rfl _ _ rfl w.heap.size m oc wr.heap.size O (zs.map Prod.fst) I s ic rfl rfl HR.out (new_cell _ _ _ 0 _ rfl) (by omega) (by simp only [World.size_alloc]; omega) ?_; intro O' oc' w3 hor hgo)
              have EA := Lib.hid ((Ext.refl wr).alloc (.cells #[.slice I s ic] 27))
              have HE := Lib.hid (((EW.out.trans EI.out).trans EA.out).grown hgo (fun k hk => (HR.out.lt k hk).1))
              have HL := Lib.hid (show Lists w3 w.heap.size (.slice O' (m + 1) oc') (zs ++ [(.slice I s ic, l)]) from
                ((LS.out.ext EI.out).ext EA.out).push (by rw [HLL.out]; exact EA.out.own (own_low' HO.out hsw)) hgo (by rw [hzl.out]; exact hor))
              have HZ := Lib.hid (show (zs ++ [((.slice I s ic : Value), l)]).map Prod.snd = outS xs (k + 1) by rw [HOut.out, List.map_append, hzs.out, HLS.out]; rfl)
              clear hor hgo hsz hsw
              go_roundw
              case rel => exact ⟨k + 1, m + 1, oc', O', _, by omega, by go_num, rfl, by omega, HZ.out, (show (zs ++ [((.slice I s ic : Value), l)]).length = m + 1 from by rw [List.length_append, hzl.out]; rfl), HL.out, HE.out⟩
              case measure => simp [intOf]; omega
            · rw [hany] at hend
              have hfb : fb = false := hend
              subst hfb
              have HOut := Lib.hid (outS_no HX.out hany)
              clear hany hend HF
              go_wp2
              go_roundw
              case rel => exact ⟨k + 1, m, oc, O, zs, by omega, by go_num, rfl, by omega, hzs.out.trans HOut.out.symm, hzl.out, LS.out.ext EI.out, EW.out.trans EI.out⟩
              case measure => simp [intOf]; omega
      · obtain rfl : k = n := by omega
        have hn := Lib.hid (hzs.out.trans (outS_end h.len))
        go_wp2
        go_ret2
        exact ⟨O, m, oc, zs, rfl, hn.out, hzl.out, LS.out, EW.out⟩
end Go.Proofs.YtoafaejhabjlnaaDoor
