/- RateSpans: the reference's entry. -/
import Derived.Test.YtkganlojknhajaaDoorSpanI
namespace Go.Proofs.YtkganlojknhajaaDoor
open Go.RowKit
set_option linter.unusedVariables false
set_option linter.unusedSimpArgs false
attribute [local go_sem] ExtOf.cell

set_option maxRecDepth 100000 in
set_option maxHeartbeats 2000000 in
theorem RateSpansS_any (A : Option Addr) (n c : Nat) (xs : List Rate) (z g : Int) (w : World) (h : RateL w A n xs) :
    Calls Tryd.prog 11 #[.slice A n c, .int .i64 z, .int .i64 g] w (SpanPost (spanR xs z g) (askS xs z g) w) := by
  have hsm := h.small
  rcases chain3 (RatesOk xs) (inB z 0 9) (inB g 1 2000) with h1 | ⟨h1, h2⟩ | ⟨h1, h2, h3⟩ | ⟨h1, h2, h3⟩
  iterate 3
    · have ha : askS xs z g = false := by simp [askS, *]
      rw [spanR_no ha, ha]
      go_enter Tryd.func11, Tryd.ntmps11
      go_wp2_with (first | (go_at_call 34; refine (l8Good_any _ _ _ xs _ (h.ext ((Ext.refl _).alloc _))).mono ?_; rintro e wa ⟨rfl, he1⟩; have hc1 := he1.cells) | (go_at_call 35; refine (l8Zone_any _ _).mono ?_; rintro e w' ⟨rfl, rfl⟩) | (go_at_call 36; refine (l8Grams_any _ _).mono ?_; rintro e w' ⟨rfl, rfl⟩))
      go_ret2
      exact ⟨some ⟨w.heap.size, 0, none⟩, 0, 0, rfl, he1.own (own_empty w _ _ _ (Nat.le_refl _)), ((Ext.refl _).alloc _).trans he1⟩
  · have ha : askS xs z g = true := by simp [askS, h1, h2, h3]
    rw [spanR_yes ha, ha]
    clear ha
    go_enter Tryd.func11, Tryd.ntmps11
    go_wp2_with (first | (go_at_call 34; refine (l8Good_any _ _ _ xs _ (h.ext ((Ext.refl _).alloc _))).mono ?_; rintro e wa ⟨rfl, he1⟩; have hc1 := he1.cells) | (go_at_call 35; refine (l8Zone_any _ _).mono ?_; rintro e w' ⟨rfl, rfl⟩) | (go_at_call 36; refine (l8Grams_any _ _).mono ?_; rintro e w' ⟨rfl, rfl⟩))
    clear hc1
    go_loopw [8, 9, 10] (fun o l i wr => ∃ (k : Nat) (A : Option Addr) (q c : Nat) (s : List Int × List Int), k ≤ 4001 ∧ i = .int .i64 k ∧ o = .slice A q c ∧ l = .int .i64 (prevR xs z g k) ∧ s = spans xs z g k ∧ wr.ownsRow w.heap.size 41 3 (.slice A q c) q (ints (flat2 s)) ∧ Ext w wr) (fun _ _ i _ => 4001 - (intOf i).toNat)
    case atStart => exact ⟨0, some ⟨w.heap.size, 0, none⟩, 0, 0, ([], []), Nat.zero_le _, rfl, rfl, rfl, rfl, he1.own (own_empty w _ _ _ (Nat.le_refl _)), ((Ext.refl _).alloc _).trans he1⟩
    case round =>
      obtain ⟨k, O, q, oc, s, hk, rfl, rfl, rfl, hs, ho, he⟩ := hrel
      have HS := Lib.hid hs
      have HO := Lib.hid ho
      clear ho
      by_cases hlt : k < 4001
      · obtain ⟨r1, r2, r3⟩ := rateAt_pos (d := (k : Int)) (z := z) (g := g) h1
        obtain ⟨q', hI, hqk⟩ := spans_inv (z := z) (g := g) h1 k
        rw [← hs] at hI
        have hqq : q = q' := by have h5 := HO.out.1; rw [ints_length, spanI_len hI] at h5; omega
        subst hqq
        have HN := Lib.hid (show spans xs z g (k + 1) = spanStep (rateAt xs k z g) k s by rw [hs]; rfl)
        have HP := Lib.hid (show prevR xs z g (k + 1) = rateAt xs k z g from rfl)
        have C := Lib.hid (l8For_any A n c xs (k : Int) z g wr (h.ext he))
        clear hs r3
        generalize rateAt xs (k : Int) z g = ra at *
        generalize prevR xs z g k = pv at *
        by_cases hra : ra = 0
        · have d1 : decide (0 < ra) = false := by simp; omega
          rw [hra, span_skip] at HN
          clear hra hI
          go_wp2_with (go_at_call 37; refine C.out.mono ?_; rintro e wb ⟨rfl, he2⟩)
          go_roundw
          case rel => exact ⟨k + 1, O, q, oc, s, by omega, by go_num, rfl, by rw [HP.out], HN.out.symm, he2.own HO.out, he.trans he2⟩
          case measure => simp [intOf]; omega
        · have d1 : decide (0 < ra) = true := by simp; omega
          by_cases heq : ra = pv
          · have d2 : (ra == pv) = true := by simpa using heq
            have d3 : decide (ra = pv) = true := by simpa using heq
            rcases hI with ⟨hs0, hq0, hp0⟩ | ⟨p, a, b, d, hq, e2, e3, e4, e5, e6, e7, e8, e9, e10, e11, e12⟩
            · exact absurd (heq.trans hp0) hra
            · obtain ⟨e13, e14⟩ := e12 (by omega)
              have hq0 : 0 < q := by omega
              obtain ⟨gg, cap, hv, hbg, hgl⟩ := HO.out.form hq0
              have hA : O = some ⟨gg, 0, none⟩ := by injection hv
              clear hv
              subst hA
              have HQ := Lib.hid hq
              have hfl := Lib.hid (show flat2 s = s.1 ++ [a, b, d] by unfold flat2; rw [e2])
              have HE3 := Lib.hid e3
              have lg := last_get e3 a b d
              rw [← hfl.out] at lg
              have c0 : wr.cell? ⟨gg, (q - 1) * 3, none⟩ = some (.int .i64 a) := by
                rw [show q - 1 = p by omega]; exact own_cellv HO.out lg.1
              have hz1 : (0 : Int) ≤ (q : Int) - 1 := by omega
              have hz2 : (q : Int) - 1 < (q : Int) := by omega
              rw [span_more hra (by rw [e2, e14, heq]) e13] at HN
              clear hq e2 e3 e11 e12 e13 e14 lg heq hra
              go_wp2_with (first | (go_at_call 37; refine C.out.mono ?_; rintro e wb ⟨rfl, he2⟩; have c0b := he2.cell1 c0; have hgb : gg < wb.heap.size := World.block_lt_of_cell? wb _ c0b) | (refine wpList_store_own rfl 41 (.tmp 58) (.tmp 57) rfl gg ((q - 1) * 3) [.int .i64 a, .int .i64 k, .int .i64 ra] rfl rfl w.heap.size 41 3 q oc _ (he2.own HO.out) (by simp only [List.length_cons, List.length_nil]; omega) sizeA3 rfl ?_; intro wc ho2 hg2))
              go_roundw
              case rel =>
                rw [hfl.out, show q - 1 = p by have := HQ.out; omega, last_setL HE3.out] at ho2
                exact ⟨k + 1, _, q, oc, _, by omega, by go_num, rfl, by rw [HP.out], HN.out.symm, ho2, (he.trans he2).row hg2 hbg⟩
              case measure => simp [intOf]; omega
          · have d2 : (ra == pv) = false := by simpa using heq
            have d3 : decide (ra = pv) = false := by simpa using heq
            have HN2 : Hid (spans xs z g (k + 1) = (s.1 ++ s.2, [(k : Int), (k : Int), ra])) := by
              rcases hI with ⟨hs0, hq0, hp0⟩ | ⟨p, a, b, d, hq, e2, e3, e4, e5, e6, e7, e8, e9, e10, e11, e12⟩
              · rw [hs0, span_first hra] at HN
                rw [hs0]; exact HN.out
              · rw [span_new hra e2 (fun hh => by
                  by_cases hp : pv = 0
                  · have := e11 hp; omega
                  · have := e12 hp; omega)] at HN
                exact HN.out
            clear HN hI hra heq
            go_wp2_with (first | (go_at_call 37; refine C.out.mono ?_; rintro e wb ⟨rfl, he2⟩) | (at_builtin; refine app_tr rfl (.tmp 62) (.tmp 67) rfl w.heap.size q oc wb.heap.size O (flat2 s) (k : Int) (k : Int) ra rfl rfl ((he2.own HO.out).alloc _) (new_cell _ _ _ 0 _ rfl) (new_cell _ _ _ 1 _ rfl) (new_cell _ _ _ 2 _ rfl) (by omega) (by have := he.size; have := he2.size; simp only [World.size_alloc]; omega) ?_; intro O' oc' w' hown' hgrow))
            go_roundw
            case rel => exact ⟨k + 1, O', q + 1, oc', _, by omega, by go_num, rfl, by rw [HP.out], HN2.out.symm, hown', ((he.trans he2).alloc _).grown hgrow (fun k hk => (HO.out.lt k hk).1)⟩
            case measure => simp [intOf]; omega
      · obtain rfl : k = 4001 := by omega
        go_wp2
        go_ret2
        exact ⟨O, q, oc, rfl, by rw [← HS.out]; exact HO.out, he⟩
end Go.Proofs.YtkganlojknhajaaDoor
