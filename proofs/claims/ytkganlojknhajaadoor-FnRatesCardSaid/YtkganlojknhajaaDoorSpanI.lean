/- RateSpans: the program's and the reference's entries. -/
import Derived.Test.YtkganlojknhajaaDoorSpanP
import Derived.Test.YtkganlojknhajaaDoorApp
import Derived.Test.YtkganlojknhajaaDoorArr3
namespace Go.Proofs.YtkganlojknhajaaDoor
open Go.RowKit
set_option linter.unusedVariables false
set_option linter.unusedSimpArgs false
attribute [local go_sem] ExtOf.cell

theorem own_low3 {w : World} {b b' T size n : Nat} {v : Value} {cs : List Value} (h : w.ownsRow b T size v n cs) (hb : b' ≤ b) : w.ownsRow b' T size v n cs := by
  rcases h with ⟨h1, h2⟩
  rcases h2 with h2 | ⟨g, cap, cur, k1, k2, k3⟩
  · exact ⟨h1, .inl h2⟩
  · exact ⟨h1, .inr ⟨g, cap, cur, k1, Nat.le_trans hb k2, k3⟩⟩
theorem own_cellv {w : World} {base T size n g c : Nat} {cs : List Value} (h : w.ownsRow base T size (.slice (some ⟨g, 0, none⟩) n c) n cs) {j : Nat} {v : Value} (hj : cs[j]? = some v) : w.cell? ⟨g, j, none⟩ = some v := by
  have hl := (List.getElem?_eq_some_iff.1 hj).1
  rw [h.cellAt j (by have := h.1; omega)]
  exact hj
theorem ints_append (l m : List Int) : ints (l ++ m) = ints l ++ ints m := by simp [ints]
/-- The last three numbers of a list. -/
theorem last_get {l : List Int} {p : Nat} (hl : l.length = p * 3) (a b d : Int) : (ints (l ++ [a, b, d]))[p * 3]? = some (.int .i64 a) ∧ (ints (l ++ [a, b, d]))[p * 3 + 1]? = some (.int .i64 b) ∧ (ints (l ++ [a, b, d]))[p * 3 + 2]? = some (.int .i64 d) := by
  have hi : (ints l).length = p * 3 := by rw [ints_length]; exact hl
  rw [ints_append]
  refine ⟨?_, ?_, ?_⟩ <;> (rw [List.getElem?_append_right (by omega)]; rw [hi])
  · rw [Nat.sub_self]; rfl
  · rw [Nat.add_sub_cancel_left]; rfl
  · rw [Nat.add_sub_cancel_left]; rfl
theorem last_set {l : List Int} {p : Nat} (hl : l.length = p * 3) (a b d k : Int) : (ints (l ++ [a, b, d])).set (p * 3 + 1) (.int .i64 k) = ints (l ++ [a, k, d]) := by
  have hi : (ints l).length = p * 3 := by rw [ints_length]; exact hl
  rw [ints_append, ints_append, List.set_append_right _ _ (by omega), hi, Nat.add_sub_cancel_left]
  rfl
theorem last_setL {l : List Int} {p : Nat} (hl : l.length = p * 3) (a b d x y z : Int) : setL (ints (l ++ [a, b, d])) (p * 3) [.int .i64 x, .int .i64 y, .int .i64 z] = ints (l ++ [x, y, z]) := by
  have hi : (ints l).length = p * 3 := by rw [ints_length]; exact hl
  have h := setL_mid [.int .i64 x, .int .i64 y, .int .i64 z] (ints l) (ints [a, b, d]) [] rfl
  rw [hi, List.append_nil, List.append_nil, ← ints_append] at h
  rw [h, ints_append]; rfl
theorem infoA3 : (Tryd.prog.info? 41).map (fun i => (i.zero, i.size, i.bytes)) = some (some (.agg #[.int .i64 0, .int .i64 0, .int .i64 0]), 3, 24) := by kernel_rfl
theorem sizeA3 : (Tryd.prog.info? 41).map (·.size) = some 3 := by kernel_rfl
theorem app_tr {ops : Array Oper} {rest : List Oper} {o : Oper} {a : Act} {w : World} {Q : Exit → Act → World → Prop} (hgd : o.guard = none) (s x : Operand)
    (ho : o.op = .call { callee := .builtin .append, args := #[s, x], argTypes := #[34, 34] })
    (base m oc g : Nat) (A : Option Addr) (l : List Int) (u v z : Int) (hs : a.eval s = .slice A m oc) (hx : a.eval x = .slice (some ⟨g, 0, none⟩) 1 1)
    (hown : w.ownsRow base 41 3 (.slice A m oc) m (ints l)) (hc0 : w.cell? ⟨g, 0, none⟩ = some (.int .i64 u)) (hc1 : w.cell? ⟨g, 1, none⟩ = some (.int .i64 v)) (hc2 : w.cell? ⟨g, 2, none⟩ = some (.int .i64 z)) (hm : m ≤ 100000000) (hb : base ≤ w.heap.size)
    (h : ∀ A' c' w', w'.ownsRow base 41 3 (.slice A' (m + 1) c') (m + 1) (ints (l ++ [u, v, z])) → w.grownBy w' (Value.ownBlock (.slice A m oc)) → wpList Tryd.prog ops Q rest (a.put o.dst (.slice A' (m + 1) c')) w') : wpList Tryd.prog ops Q (o :: rest) a w := by
  obtain ⟨i0, hi, hz0, hz1, hz2⟩ := info_parts infoA3
  refine wpList_append_own w hgd s x 34 ho base 41 i0 (.agg #[.int .i64 0, .int .i64 0, .int .i64 0]) 3 24 Tryd.underlying34 hi hz0 hz1 hz2 rfl (by decide) (.slice A m oc) m (ints l) hs hown ⟨g, 0, none⟩ 1 1 [.int .i64 u, .int .i64 v, .int .i64 z] hx rfl ?_ ?_ ?_ ?_ hb ?_
  · intro j y hj
    have hl := (List.getElem?_eq_some_iff.1 hj).1
    simp at hl
    rw [Addr.add_mid, Nat.zero_add]
    obtain rfl | rfl | rfl : j = 0 ∨ j = 1 ∨ j = 2 := by omega
    · simp at hj; subst hj; exact hc0
    · simp at hj; subst hj; exact hc1
    · simp at hj; subst hj; exact hc2
  · intro y hy; simp at hy; rcases hy with rfl | rfl | rfl <;> rfl
  · unfold maxLen; omega
  · omega
  · intro v' w' h1 h2 h3
    obtain ⟨A', c', rfl⟩ := own_slice h1
    refine h A' c' w' ?_ h2
    rw [show ints (l ++ [u, v, z]) = ints l ++ [.int .i64 u, .int .i64 v, .int .i64 z] by simp [ints]]; exact h1
def SpanPost (L : List Int) (ok : Bool) (w : World) : Ending → World → Prop := RowPost 41 3 (ints L) ok w

set_option maxRecDepth 100000 in
set_option maxHeartbeats 2000000 in
theorem RateSpansI_any (A : Option Addr) (n c : Nat) (xs : List Rate) (z g : Int) (w : World) (h : RateL w A n xs) :
    Calls Tryd.prog 10 #[.slice A n c, .int .i64 z, .int .i64 g] w (SpanPost (spanR xs z g) (askS xs z g) w) := by
  have hsm := h.small
  rcases chain3 (RatesOk xs) (inB z 0 9) (inB g 1 2000) with h1 | ⟨h1, h2⟩ | ⟨h1, h2, h3⟩ | ⟨h1, h2, h3⟩
  iterate 3
    · have ha : askS xs z g = false := by simp [askS, *]
      rw [spanR_no ha, ha]
      go_enter Tryd.func10, Tryd.ntmps10
      go_wp2_with (first | (go_at_call 30; refine (areRates_any _ _ _ xs _ h).mono ?_; rintro e wa ⟨rfl, he1⟩; have hc1 := he1.cells) | (go_at_call 31; refine (isZone_any _ _).mono ?_; rintro e w' ⟨rfl, rfl⟩) | (go_at_call 32; refine (isWeight_any _ _).mono ?_; rintro e w' ⟨rfl, rfl⟩))
      go_ret2
      exact ⟨none, 0, 0, rfl, own_nil _ _ _ _, he1⟩
  · have ha : askS xs z g = true := by simp [askS, h1, h2, h3]
    rw [spanR_yes ha, ha]
    clear ha
    go_enter Tryd.func10, Tryd.ntmps10
    go_wp2_with (first | (go_at_call 30; refine (areRates_any _ _ _ xs _ h).mono ?_; rintro e wa ⟨rfl, he1⟩; have hc1 := he1.cells) | (go_at_call 31; refine (isZone_any _ _).mono ?_; rintro e w' ⟨rfl, rfl⟩) | (go_at_call 32; refine (isWeight_any _ _).mono ?_; rintro e w' ⟨rfl, rfl⟩))
    clear hc1
    go_loopw [8, 26] (fun o i wr => ∃ (k : Nat) (A : Option Addr) (q c : Nat) (s : List Int × List Int), k ≤ 4001 ∧ i = .int .i64 k ∧ o = .slice A q c ∧ s = spans xs z g k ∧ wr.ownsRow w.heap.size 41 3 (.slice A q c) q (ints (flat2 s)) ∧ Ext w wr) (fun _ i _ => 4001 - (intOf i).toNat)
    case atStart => exact ⟨0, none, 0, 0, ([], []), Nat.zero_le _, rfl, rfl, rfl, own_nil _ _ _ _, he1⟩
    case round =>
      obtain ⟨k, O, q, oc, s, hk, rfl, rfl, hs, ho, he⟩ := hrel
      have HS := Lib.hid hs
      have HO := Lib.hid ho
      clear ho
      by_cases hlt : k < 4001
      · obtain ⟨r1, r2, r3⟩ := rateAt_pos (d := (k : Int)) (z := z) (g := g) h1
        obtain ⟨q', hI, hqk⟩ := spans_inv (z := z) (g := g) h1 k
        rw [← hs] at hI
        have hqq : q = q' := by have h5 := HO.out.1; rw [ints_length, spanI_len hI] at h5; omega
        subst hqq
        have HN := Lib.hid (show spans xs z g (k + 1) = spanStep (rateAt xs k z g) k s by rw [hs]; rfl)
        have C := Lib.hid (rateFor_any A n c xs (k : Int) z g wr (h.ext he))
        clear hs
        generalize rateAt xs (k : Int) z g = ra at *
        cases ht : hasRate xs (k : Int) z g
        · rw [ht] at r3
          have hra : ra = 0 := by simp at r3; omega
          rw [hra, span_skip] at HN
          clear hra hI r3
          go_wp2_with (go_at_call 33; refine C.out.mono ?_; rintro e wb ⟨rfl, he2⟩; rw [ht])
          go_roundw
          case rel => exact ⟨k + 1, O, q, oc, s, by omega, by go_num, rfl, HN.out.symm, he2.own HO.out, he.trans he2⟩
          case measure => simp [intOf]; omega
        · rw [ht] at r3
          have hra : ra ≠ 0 := by simp at r3; omega
          clear r3
          rcases hI with ⟨hs0, hq0, _⟩ | ⟨p, a, b, d, hq, e2, e3, e4, e5, e6, e7, e8, e9, e10, e11, e12⟩
          · subst hq0
            rw [hs0, span_first hra] at HN
            have hf := Lib.hid (show flat2 s = [] by rw [hs0]; rfl)
            clear hs0 hra
            go_wp2_with (first | (go_at_call 33; refine C.out.mono ?_; rintro e wb ⟨rfl, he2⟩; rw [ht]) | (at_builtin; refine app_tr rfl (.tmp 70) (.tmp 75) rfl w.heap.size 0 oc wb.heap.size O (flat2 s) (k : Int) (k : Int) ra rfl rfl ((he2.own HO.out).alloc _) (new_cell _ _ _ 0 _ rfl) (new_cell _ _ _ 1 _ rfl) (new_cell _ _ _ 2 _ rfl) (by omega) (by have := he.size; have := he2.size; simp only [World.size_alloc]; omega) ?_; intro O' oc' w' hown' hgrow))
            go_roundw
            case rel => exact ⟨k + 1, O', 0 + 1, oc', _, by omega, by go_num, rfl, HN.out.symm, by rw [hf.out] at hown'; exact hown', ((he.trans he2).alloc _).grown hgrow (fun k hk => (HO.out.lt k hk).1)⟩
            case measure => simp [intOf]; omega
          · have hq0 : 0 < q := by omega
            obtain ⟨gg, cap, hv, hbg, hgl⟩ := HO.out.form hq0
            have hA : O = some ⟨gg, 0, none⟩ := by injection hv
            clear hv
            subst hA
            have HQ := Lib.hid hq
            have hfl := Lib.hid (show flat2 s = s.1 ++ [a, b, d] by unfold flat2; rw [e2])
            have HE3 := Lib.hid e3
            have lg := last_get e3 a b d
            rw [← hfl.out] at lg
            have c1 : wr.cell? ⟨gg, (q - 1) * 3 + 1, none⟩ = some (.int .i64 b) := by
              rw [show q - 1 = p by omega]; exact own_cellv HO.out lg.2.1
            have c2 : wr.cell? ⟨gg, (q - 1) * 3 + 2, none⟩ = some (.int .i64 d) := by
              rw [show q - 1 = p by omega]; exact own_cellv HO.out lg.2.2
            have f1 : ∀ w', Ext wr w' → w'.frozen? ⟨gg, (q - 1) * 3 + 1, none⟩ = false := fun w' h' => (h'.own HO.out).frozenAt _
            have F1 := Lib.hid f1
            clear f1 lg hfl
            have hfl := Lib.hid (show flat2 s = s.1 ++ [a, b, d] by unfold flat2; rw [e2])
            have hz0 : (0 : Int) < (q : Int) := by omega
            have hz1 : (0 : Int) ≤ (q : Int) - 1 := by omega
            have hz2 : (q : Int) - 1 < (q : Int) := by omega
            by_cases hb1 : b + 1 = (k : Int)
            · have t1 : (b == (k : Int) - 1) = true := by simp; omega
              have t2 : decide (b = (k : Int) - 1) = true := by simp; omega
              by_cases hb2 : d = ra
              · have t3 : (d == ra) = true := by simp [hb2]
                have t4 : decide (d = ra) = true := by simp [hb2]
                rw [span_more hra (by rw [e2, hb2]) hb1] at HN
                have HB2 := Lib.hid hb2
                clear hb2 hb1 e2 e3 hra hq e11 e12
                go_wp2_with (go_at_call 33; refine C.out.mono ?_; rintro e wb ⟨rfl, he2⟩; rw [ht]; have c1b := he2.cell1 c1; have c2b := he2.cell1 c2; have fb := F1.out _ he2; have hgb : gg < wb.heap.size := World.block_lt_of_cell? wb _ c1b)
                go_roundw
                case rel =>
                  have hs1 := ((he2.own HO.out).stored ((q - 1) * 3 + 1) (.int .i64 k)).1
                  have eL : (ints (flat2 s)).set ((q - 1) * 3 + 1) (.int .i64 k) = ints (flat2 (s.1, [a, (k : Int), ra])) := by
                    rw [hfl.out, show q - 1 = p by have := HQ.out; omega, last_set HE3.out, HB2.out]; rfl
                  rw [eL] at hs1
                  exact ⟨k + 1, _, q, oc, _, by omega, by go_num, rfl, HN.out.symm, hs1, (he.trans he2).set (by exact hbg) _⟩
                case measure => simp [intOf]; omega
              · have t3 : (d == ra) = false := by simp [hb2]
                have t4 : decide (d = ra) = false := by simp [hb2]
                rw [span_new hra e2 (fun h => hb2 h.2)] at HN
                clear hb2 hb1 e2 e3 hra hq e11 e12
                go_wp2_with (first | (go_at_call 33; refine C.out.mono ?_; rintro e wb ⟨rfl, he2⟩; rw [ht]; have c1b := he2.cell1 c1; have c2b := he2.cell1 c2; have hgb : gg < wb.heap.size := World.block_lt_of_cell? wb _ c1b) | (at_builtin; refine app_tr rfl (.tmp 70) (.tmp 75) rfl w.heap.size q oc wb.heap.size (some ⟨gg, 0, none⟩) (flat2 s) (k : Int) (k : Int) ra rfl rfl ((he2.own HO.out).alloc _) (new_cell _ _ _ 0 _ rfl) (new_cell _ _ _ 1 _ rfl) (new_cell _ _ _ 2 _ rfl) (by omega) (by have := he.size; have := he2.size; simp only [World.size_alloc]; omega) ?_; intro O' oc' w' hown' hgrow))
                go_roundw
                case rel => exact ⟨k + 1, O', q + 1, oc', _, by omega, by go_num, rfl, HN.out.symm, hown', ((he.trans he2).alloc _).grown hgrow (fun k hk => (HO.out.lt k hk).1)⟩
                case measure => simp [intOf]; omega
            · have t1 : (b == (k : Int) - 1) = false := by simp; omega
              have t2 : decide (b = (k : Int) - 1) = false := by simp; omega
              rw [span_new hra e2 (fun h => hb1 h.1)] at HN
              clear hb1 e2 e3 hra hq e11 e12
              go_wp2_with (first | (go_at_call 33; refine C.out.mono ?_; rintro e wb ⟨rfl, he2⟩; rw [ht]; have c1b := he2.cell1 c1; have c2b := he2.cell1 c2; have hgb : gg < wb.heap.size := World.block_lt_of_cell? wb _ c1b) | (at_builtin; refine app_tr rfl (.tmp 70) (.tmp 75) rfl w.heap.size q oc wb.heap.size (some ⟨gg, 0, none⟩) (flat2 s) (k : Int) (k : Int) ra rfl rfl ((he2.own HO.out).alloc _) (new_cell _ _ _ 0 _ rfl) (new_cell _ _ _ 1 _ rfl) (new_cell _ _ _ 2 _ rfl) (by omega) (by have := he.size; have := he2.size; simp only [World.size_alloc]; omega) ?_; intro O' oc' w' hown' hgrow))
              go_roundw
              case rel => exact ⟨k + 1, O', q + 1, oc', _, by omega, by go_num, rfl, HN.out.symm, hown', ((he.trans he2).alloc _).grown hgrow (fun k hk => (HO.out.lt k hk).1)⟩
              case measure => simp [intOf]; omega
      · obtain rfl : k = 4001 := by omega
        go_wp2
        go_ret2
        exact ⟨O, q, oc, rfl, by rw [← HS.out]; exact HO.out, he⟩
end Go.Proofs.YtkganlojknhajaaDoor
