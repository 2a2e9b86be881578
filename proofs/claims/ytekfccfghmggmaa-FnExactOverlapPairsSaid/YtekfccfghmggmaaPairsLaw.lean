/- The law of OverlapPairs. -/
import Derived.Test.YtekfccfghmggmaaPairsI
import Derived.Test.YtekfccfghmggmaaPairsM
import Derived.Test.YtekfccfghmggmaaShadeS3
namespace Go.Proofs.Ytekfccfghmggmaa
open Go.RowKit
set_option linter.unusedVariables false
set_option linter.unusedSimpArgs false
attribute [local go_sem] ExtOf.cell

set_option maxRecDepth 100000 in
set_option maxHeartbeats 4000000 in
theorem FnExactOverlapPairs_any (A : Option Addr) (n c : Nat) (xs : List Shade) (w : World) (hn : xs.length = n) (hm : n ≤ maxLen) (hw : ∀ x ∈ xs, x.Wf) (hr : Rd w A n 5 (xs.flatMap Shade.cs)) :
    Calls Try.prog 3 #[.slice A n c] w fun e w' => e = .returned (.bool true) ∧ Ext w w' := by
  have H := Lib.hid hn
  have HW := Lib.hid hw
  have HR := Lib.hid hr
  clear hn hw hr
  go_enter Try.func3, Try.ntmps3
  go_wp2_with fail
  refine (szShadeS_any _ _ _ xs _ _ (by omega) (by omega) H.out hm HW.out HR.out).mono ?_
  rintro e w1 ⟨r, rfl, r1, r2, r3, e1⟩
  by_cases hr0 : r < 0
  · go_wp2
    go_ret
    exact ⟨rfl, e1⟩
  have hn1 : (n : Int) ≤ 1048576 := r3 (by omega)
  have L1 := Lib.hid (show ShL w1 A n xs from ⟨H.out, by omega, HW.out, HR.out.ext e1⟩)
  have hCS := pairsR_len xs
  generalize hcs : pairsR xs = CS at *
  have HCS := Lib.hid hcs
  generalize hok : shadesOk xs = ok at *
  have HOK := Lib.hid hok
  clear hcs hok
  go_wp2_with fail
  refine (toShadeS_any _ _ _ xs _ H.out (by omega) L1.out.rd).mono ?_
  rintro e w2 ⟨rfl, o2, e2⟩
  have L2 := Lib.hid (show ShL w2 _ n xs from ⟨H.out, by omega, HW.out, Rd.own o2⟩)
  clear o2
  go_wp2_with fail
  refine (OverlapPairsS_any _ _ _ xs _ L2.out).mono ?_
  rintro e w3 ⟨A3, m3, c3, zs3, rfl, hl3, hs3, o3, e3⟩
  rw [HCS.out] at hs3
  rw [HOK.out]
  have hm3 : m3 = CS.length := by rw [← hs3, List.length_map, hl3]
  subst hm3
  have O3 := Lib.hid o3
  have HL3 := Lib.hid hl3
  have HS3 := Lib.hid hs3
  clear o3 hl3 hs3
  go_wp2_with fail
  refine (toShadeS_any _ _ _ xs _ H.out (by omega) (L1.out.ext (e2.trans e3)).rd).mono ?_
  rintro e w4 ⟨rfl, o4, e4⟩
  have L4 := Lib.hid (show ShL w4 _ n xs from ⟨H.out, by omega, HW.out, Rd.own o4⟩)
  have O4 := Lib.hid o4
  clear o4
  go_wp2_with fail
  refine (OverlapPairsI_any _ _ _ xs _ L4.out (Nat.le_refl _)).mono ?_
  rintro e w5 ⟨A5, m5, c5, zs5, rfl, hl5, hs5, o5, e5⟩
  rw [HCS.out] at hs5
  rw [HOK.out]
  have hm5 : m5 = CS.length := by rw [← hs5, List.length_map, hl5]
  subst hm5
  have O5 := Lib.hid o5
  have HL5 := Lib.hid hl5
  have HS5 := Lib.hid hs5
  have HS53 := Lib.hid (show zs5.map (·.2) = zs3.map (·.2) by rw [hs5, HS3.out])
  clear o5 hl5 hs5
  have B3 := Lib.hid (fun k hk => (O3.out.row.lt k hk).2)
  have B5 := Lib.hid (fun k hk => (O5.out.row.lt k hk).1)
  have z4 : w3.heap.size < w4.heap.size := (O4.out.lt _ rfl).2
  have P5a := Lib.hid (O3.out.ext (e4.trans e5))
  go_wp2_with fail
  refine (eqStringSS_same _ _ _ _ _ _ _ zs5 zs3 _ (by omega) HL5.out HL3.out HS53.out O5.out P5a.out).mono ?_
  rintro e w6 ⟨rfl, e6⟩
  go_wp2_with fail
  refine (toShadeS_any _ _ _ xs _ H.out (by omega) (L1.out.ext (e2.trans (e3.trans (e4.trans (e5.trans (e6)))))).rd).mono ?_
  rintro e w7 ⟨rfl, o7, e7⟩
  have L7 := Lib.hid (show ShL w7 _ n xs from ⟨H.out, by omega, HW.out, Rd.own o7⟩)
  clear o7
  go_wp2_with fail
  refine (eqShadeS_same _ _ _ _ _ xs _ H.out (by omega) (L4.out.ext (e5.trans (e6.trans e7))).rd L7.out.rd).mono ?_
  rintro e w8 ⟨rfl, e8⟩
  have E8 := Lib.hid (e5.trans (e6.trans (e7.trans e8)))
  go_wp2_with fail
  refine (markShadeS_any _ _ _ _ _ 1 _ (by omega) (by omega) (E8.out.own O4.out)).mono ?_
  rintro e w9 ⟨rfl, g9⟩
  have P3 := Lib.hid ((O3.out.ext (e4.trans E8.out)).kept g9 (ne_row (fun k hk => by have := B3.out k hk; omega)) (fun z hz => by have := (O3.out.at_lt hz).2; intro e; injection e with e; omega))
  have P5 := Lib.hid ((O5.out.ext (e6.trans (e7.trans e8))).kept g9 (ne_row (fun k hk => by have := B5.out k hk; omega)) (fun z hz => by have := (O5.out.at_lt hz).1; intro e; injection e with e; omega))
  go_wp2_with fail
  refine (eqStringSS_same _ _ _ _ _ _ _ zs5 zs3 _ (by omega) HL5.out HL3.out HS53.out P5.out P3.out).mono ?_
  rintro e w10 ⟨rfl, e10⟩
  go_wp2_with fail
  refine (markStringSS_any _ _ _ _ zs5 1 _ (by omega) (by omega) HL5.out (P5.out.ext e10)).mono ?_
  rintro e w11 ⟨rfl, ⟨zs6, hl6, o11, hk11⟩, b11⟩
  have O11 := Lib.hid o11
  have HL6 := Lib.hid hl6
  have HK11 := Lib.hid hk11
  clear o11 hl6 hk11
  go_wp2_with fail
  refine (heldStringSS_any _ _ _ _ zs6 1 _ (by omega) (by omega) HL6.out O11.out HK11.out).mono ?_
  rintro e w12 ⟨rfl, e12⟩
  have E0 := Lib.hid (e1.trans (e2.trans (e3.trans (e4.trans (e5.trans (e6.trans (e7.trans (e8))))))))
  have z3 : w.heap.size ≤ w3.heap.size := (e1.trans (e2.trans e3)).size
  have E9 := Lib.hid (E0.out.row g9 z3)
  have E11 := Lib.hid (show Ext w w11 from (E9.out.trans e10).trans_below b11 (by omega))
  have E12 := Lib.hid (E11.out.trans e12)
  have P3b := Lib.hid (((P3.out.ext e10).below b11 (fun k hk => by have := B3.out k hk; omega) (fun z hz => by have := (O3.out.at_lt hz).2; omega)).ext e12)
  have L12 := Lib.hid (show ShL w12 A n xs from ⟨H.out, by omega, HW.out, HR.out.ext E12.out⟩)
  go_wp2_with fail
  refine (toShadeS_any _ _ _ xs _ H.out (by omega) L12.out.rd).mono ?_
  rintro e w13 ⟨rfl, o13, e13⟩
  have L13 := Lib.hid (show ShL w13 _ n xs from ⟨H.out, by omega, HW.out, Rd.own o13⟩)
  clear o13
  go_wp2_with fail
  refine (OverlapPairsI_any _ _ _ xs _ L13.out (Nat.le_refl _)).mono ?_
  rintro e w14 ⟨A14, m14, c14, zs14, rfl, hl14, hs14, o14, e14⟩
  rw [HCS.out] at hs14
  rw [HOK.out]
  have hm14 : m14 = CS.length := by rw [← hs14, List.length_map, hl14]
  subst hm14
  have O14 := Lib.hid o14
  have HL14 := Lib.hid hl14
  have HS143 := Lib.hid (show zs14.map (·.2) = zs3.map (·.2) by rw [hs14, HS3.out])
  clear o14 hl14 hs14
  have P3c := Lib.hid (P3b.out.ext (e13.trans e14))
  go_wp2_with fail
  refine (eqStringSS_same _ _ _ _ _ _ _ zs14 zs3 _ (by omega) HL14.out HL3.out HS143.out O14.out P3c.out).mono ?_
  rintro e w15 ⟨rfl, e15⟩
  go_wp2_with fail
  refine (heldStringSS_any _ _ _ _ zs6 1 _ (by omega) (by omega) HL6.out (O11.out.ext (e12.trans (e13.trans (e14.trans e15)))) HK11.out).mono ?_
  rintro e w16 ⟨rfl, e16⟩
  go_wp2
  go_ret
  exact ⟨rfl, E12.out.trans (e13.trans (e14.trans (e15.trans e16)))⟩
end Go.Proofs.Ytekfccfghmggmaa
