/- The law of FaultCounts. -/
import Derived.Test.YtopjomkjdmcljaaCoverG
namespace Go.Proofs.Ytopjomkjdmcljaa
open Go.RowKit
set_option linter.unusedVariables false
set_option linter.unusedSimpArgs false
attribute [local go_sem] ExtOf.cell

set_option maxRecDepth 100000 in
set_option maxHeartbeats 2000000 in
theorem FnExactFaultCounts_any (A : Option Addr) (n c : Nat) (rs : List Rate) (B : Option Addr) (n2 c2 : Nat) (ms : List Mail) (D : Option Addr) (n3 c3 : Nat) (xs : List Cover) (w : World) (hn : rs.length = n) (hm : n ≤ maxLen) (hw : ∀ x ∈ rs, x.Wf) (hr : Rd w A n 5 (rs.flatMap Rate.cs)) (gn : ms.length = n2) (gm : n2 ≤ maxLen) (gw : ∀ x ∈ ms, x.Wf) (gr : Rd w B n2 4 (ms.flatMap Mail.cs)) (kn : xs.length = n3) (km : n3 ≤ maxLen) (kw : ∀ x ∈ xs, x.Wf) (kr : Rd w D n3 9 (xs.flatMap Cover.cs)) :
    Calls Try.prog 10 #[.slice A n c, .slice B n2 c2, .slice D n3 c3] w fun e w' => e = .returned (.bool true) ∧ Ext w w' := by
  have H := Lib.hid hn
  have HW := Lib.hid hw
  have HR := Lib.hid hr
  have G := Lib.hid gn
  have GW := Lib.hid gw
  have GR := Lib.hid gr
  have K := Lib.hid kn
  have KW := Lib.hid kw
  have KR := Lib.hid kr
  clear hn hw hr gn gw gr kn kw kr
  obtain ⟨F, hF⟩ : ∃ F, countsF rs ms xs = F := ⟨_, rfl⟩
  obtain ⟨ok, hok⟩ : ∃ ok, countsOk rs ms xs = ok := ⟨_, rfl⟩
  have HF := Lib.hid hF
  have HK := Lib.hid hok
  clear hF hok
  go_enter Try.func10, Try.ntmps10
  go_wp2_with fail
  refine (szRateS_any _ _ _ rs _ _ (by omega) (by omega) H.out hm HW.out HR.out).mono ?_
  rintro e w1 ⟨r, rfl, r1, r2, r3, e1⟩
  by_cases hr0 : r < 0
  · go_wp2
    go_ret
    exact ⟨rfl, e1⟩
  have hn1 : (n : Int) ≤ 1048576 := r3 (by omega)
  go_wp2_with fail
  refine (szMailS_any _ _ _ ms _ _ (by omega) (by omega) G.out gm GW.out (GR.out.ext e1)).mono ?_
  rintro e w2 ⟨s, rfl, s1, s2, s3, e2⟩
  by_cases hs0 : s < 0
  · go_wp2
    go_ret
    exact ⟨rfl, (by repeat (first | exact Ext.refl _ | assumption | refine Ext.trans ?_ (by assumption) | refine Ext.drew ?_ | refine Ext.drewN ?_ _ | refine Ext.alloc ?_ _))⟩
  have hn2 : (n2 : Int) ≤ 1048576 := by have := s3 (by omega); omega
  go_wp2_with fail
  refine (szCoverS_any _ _ _ xs _ _ (by omega) (by omega) K.out km KW.out (KR.out.ext (e1.trans e2))).mono ?_
  rintro e w3 ⟨q, rfl, q1, q2, q3, e3⟩
  by_cases hq0 : q < 0
  · go_wp2
    go_ret
    exact ⟨rfl, (by repeat (first | exact Ext.refl _ | assumption | refine Ext.trans ?_ (by assumption) | refine Ext.drew ?_ | refine Ext.drewN ?_ _ | refine Ext.alloc ?_ _))⟩
  have hn3 : (n3 : Int) ≤ 1048576 := by have := q3 (by omega); omega
  have f1 : Ext w w3 := (by repeat (first | exact Ext.refl _ | assumption | refine Ext.trans ?_ (by assumption) | refine Ext.drew ?_ | refine Ext.drewN ?_ _ | refine Ext.alloc ?_ _))
  go_wp2_with fail
  refine (toRateS_any _ _ _ rs _ H.out (by omega) (HR.out.ext (by repeat (first | exact Ext.refl _ | assumption | refine Ext.trans ?_ (by assumption) | refine Ext.drew ?_ | refine Ext.drewN ?_ _ | refine Ext.alloc ?_ _)))).mono ?_
  rintro e v1 ⟨rfl, o1, h1⟩
  (try simp only [World.size_alloc] at o1)
  go_wp2_with fail
  refine (toMailS_any _ _ _ ms _ G.out (by omega) (GR.out.ext (by repeat (first | exact Ext.refl _ | assumption | refine Ext.trans ?_ (by assumption) | refine Ext.drew ?_ | refine Ext.drewN ?_ _ | refine Ext.alloc ?_ _)))).mono ?_
  rintro e v2 ⟨rfl, o2, h2⟩
  go_wp2_with fail
  refine (toCoverS_any _ _ _ xs _ K.out (by omega) (KR.out.ext (by repeat (first | exact Ext.refl _ | assumption | refine Ext.trans ?_ (by assumption) | refine Ext.drew ?_ | refine Ext.drewN ?_ _ | refine Ext.alloc ?_ _)))).mono ?_
  rintro e v3 ⟨rfl, o3, h3⟩
  go_wp2_with fail
  refine (FaultCountsS_any _ n n rs _ n2 n2 ms _ n3 n3 xs _ ⟨H.out, by omega, HW.out, Rd.own (Ext.own (by repeat (first | exact Ext.refl _ | assumption | refine Ext.trans ?_ (by assumption) | refine Ext.drew ?_ | refine Ext.drewN ?_ _ | refine Ext.alloc ?_ _)) o1)⟩ ⟨G.out, by omega, GW.out, Rd.own (Ext.own (by repeat (first | exact Ext.refl _ | assumption | refine Ext.trans ?_ (by assumption) | refine Ext.drew ?_ | refine Ext.drewN ?_ _ | refine Ext.alloc ?_ _)) o2)⟩ ⟨K.out, by omega, KW.out, Rd.own o3⟩).mono ?_
  rintro e v4 ⟨hev, h4⟩
  rw [HF.out, HK.out] at hev
  unfold csix at hev
  subst hev
  clear o1 o2 o3
  go_wp2_with fail
  refine (toRateS_any _ _ _ rs _ H.out (by omega) (HR.out.ext (by repeat (first | exact Ext.refl _ | assumption | refine Ext.trans ?_ (by assumption) | refine Ext.drew ?_ | refine Ext.drewN ?_ _ | refine Ext.alloc ?_ _)))).mono ?_
  rintro e v5 ⟨rfl, o5, h5⟩
  (try simp only [World.size_alloc] at o5)
  go_wp2_with fail
  refine (toMailS_any _ _ _ ms _ G.out (by omega) (GR.out.ext (by repeat (first | exact Ext.refl _ | assumption | refine Ext.trans ?_ (by assumption) | refine Ext.drew ?_ | refine Ext.drewN ?_ _ | refine Ext.alloc ?_ _)))).mono ?_
  rintro e v6 ⟨rfl, o6, h6⟩
  go_wp2_with fail
  refine (toCoverS_any _ _ _ xs _ K.out (by omega) (KR.out.ext (by repeat (first | exact Ext.refl _ | assumption | refine Ext.trans ?_ (by assumption) | refine Ext.drew ?_ | refine Ext.drewN ?_ _ | refine Ext.alloc ?_ _)))).mono ?_
  rintro e v7 ⟨rfl, o7, h7⟩
  go_wp2_with fail
  refine (FaultCountsI_any _ n n rs _ n2 n2 ms _ n3 n3 xs _ ⟨H.out, by omega, HW.out, Rd.own (Ext.own (by repeat (first | exact Ext.refl _ | assumption | refine Ext.trans ?_ (by assumption) | refine Ext.drew ?_ | refine Ext.drewN ?_ _ | refine Ext.alloc ?_ _)) o5)⟩ ⟨G.out, by omega, GW.out, Rd.own (Ext.own (by repeat (first | exact Ext.refl _ | assumption | refine Ext.trans ?_ (by assumption) | refine Ext.drew ?_ | refine Ext.drewN ?_ _ | refine Ext.alloc ?_ _)) o6)⟩ ⟨K.out, by omega, KW.out, Rd.own o7⟩).mono ?_
  rintro e v8 ⟨hev, h8⟩
  rw [HF.out, HK.out] at hev
  unfold csix at hev
  subst hev
  have E48 : Ext (v4.alloc (.cells #[.int .i64 (F 0), .int .i64 (F 1), .int .i64 (F 2), .int .i64 (F 3), .int .i64 (F 4), .int .i64 (F 5)] 61)) v8 := (by repeat (first | exact Ext.refl _ | assumption | refine Ext.trans ?_ (by assumption) | refine Ext.drew ?_ | refine Ext.drewN ?_ _ | refine Ext.alloc ?_ _))
  have OS := E48.own (own_six v4 61 F)
  have z0 := six_at OS (show 0 < 6 by decide)
  have z1 := six_at OS (show 1 < 6 by decide)
  have z2 := six_at OS (show 2 < 6 by decide)
  have z3 := six_at OS (show 3 < 6 by decide)
  have z4 := six_at OS (show 4 < 6 by decide)
  have z5 := six_at OS (show 5 < 6 by decide)
  have hz8 : v4.heap.size < v8.heap.size := (OS.lt _ rfl).2
  clear OS E48
  go_wp2_with fail
  refine (eqIntA6_same F _).mono ?_
  rintro e v9 ⟨rfl, h9⟩
  go_wp2_with fail
  refine (toRateS_any _ _ _ rs _ H.out (by omega) (HR.out.ext (by repeat (first | exact Ext.refl _ | assumption | refine Ext.trans ?_ (by assumption) | refine Ext.drew ?_ | refine Ext.drewN ?_ _ | refine Ext.alloc ?_ _)))).mono ?_
  rintro e va ⟨rfl, oa, ha⟩
  go_wp2_with fail
  refine (eqRateS_same _ _ _ _ _ rs _ H.out (by omega) (Rd.own (Ext.own (by repeat (first | exact Ext.refl _ | assumption | refine Ext.trans ?_ (by assumption) | refine Ext.drew ?_ | refine Ext.drewN ?_ _ | refine Ext.alloc ?_ _)) o5)) (Rd.own oa)).mono ?_
  rintro e vb ⟨rfl, hb⟩
  go_wp2_with fail
  refine (toMailS_any _ _ _ ms _ G.out (by omega) (GR.out.ext (by repeat (first | exact Ext.refl _ | assumption | refine Ext.trans ?_ (by assumption) | refine Ext.drew ?_ | refine Ext.drewN ?_ _ | refine Ext.alloc ?_ _)))).mono ?_
  rintro e vc ⟨rfl, oc, hc⟩
  go_wp2_with fail
  refine (eqMailS_same _ _ _ _ _ ms _ G.out (by omega) (Rd.own (Ext.own (by repeat (first | exact Ext.refl _ | assumption | refine Ext.trans ?_ (by assumption) | refine Ext.drew ?_ | refine Ext.drewN ?_ _ | refine Ext.alloc ?_ _)) o6)) (Rd.own oc)).mono ?_
  rintro e vd ⟨rfl, hd⟩
  go_wp2_with fail
  refine (toCoverS_any _ _ _ xs _ K.out (by omega) (KR.out.ext (by repeat (first | exact Ext.refl _ | assumption | refine Ext.trans ?_ (by assumption) | refine Ext.drew ?_ | refine Ext.drewN ?_ _ | refine Ext.alloc ?_ _)))).mono ?_
  rintro e ve ⟨rfl, oe, he⟩
  go_wp2_with fail
  refine (eqCoverS_same _ _ _ _ _ xs _ K.out (by omega) (Rd.own (Ext.own (by repeat (first | exact Ext.refl _ | assumption | refine Ext.trans ?_ (by assumption) | refine Ext.drew ?_ | refine Ext.drewN ?_ _ | refine Ext.alloc ?_ _)) o7)) (Rd.own oe)).mono ?_
  rintro e vf ⟨rfl, hf⟩
  go_wp2
  go_ret
  exact ⟨rfl, (by repeat (first | exact Ext.refl _ | assumption | refine Ext.trans ?_ (by assumption) | refine Ext.drew ?_ | refine Ext.drewN ?_ _ | refine Ext.alloc ?_ _))⟩
end Go.Proofs.Ytopjomkjdmcljaa
