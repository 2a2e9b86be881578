/- Lists of pairs of names compared, marked and held (made by wip/pairs.py). -/
import Derived.Test.YtekfccfghmggmaaPairs
import Derived.Test.YtekfccfghmggmaaVsR
namespace Go.Proofs.Ytekfccfghmggmaa
open Go.RowKit
set_option linter.unusedVariables false
set_option linter.unusedSimpArgs false
attribute [local go_sem] ExtOf.cell

theorem snd_at {zs zs' : List Pr} {k : Nat} {z z' : Pr} (h : zs.map (·.2) = zs'.map (·.2)) (hz : zs[k]? = some z) (hz' : zs'[k]? = some z') : z.2 = z'.2 := by
  have h1 : (zs.map (·.2))[k]? = some z.2 := by rw [List.getElem?_map, hz]; rfl
  rw [h, List.getElem?_map, hz'] at h1
  injection h1 with h1
  exact h1.symm
set_option maxHeartbeats 1000000 in
theorem eqStringSS_same (A A' : Option Addr) (n c c' b b' : Nat) (zs zs' : List Pr) (w : World) (hm : n ≤ 1048576) (hn : zs.length = n) (hn' : zs'.length = n) (hs : zs.map (·.2) = zs'.map (·.2)) (hr : Prs w b (.slice A n c) zs) (hr' : Prs w b' (.slice A' n c') zs') :
    Calls Try.prog 9 #[.slice A n c, .slice A' n c'] w fun e w' => e = .returned (.bool true) ∧ Ext w w' := by
  have HR := Lib.hid hr
  have HR' := Lib.hid hr'
  have HN := Lib.hid hn
  have HN' := Lib.hid hn'
  have HS := Lib.hid hs
  clear hr hr' hn hn' hs
  go_enter Try.func9, Try.ntmps9
  go_wp2
  go_loopw [5] (fun i wr => ∃ k : Nat, k ≤ n ∧ i = .int .i64 k ∧ Ext w wr) (fun i _ => n - (intOf i).toNat)
  case atStart => exact ⟨0, Nat.zero_le _, rfl, Ext.refl _⟩
  case round =>
    obtain ⟨k, hk, rfl, he⟩ := hrel
    by_cases hlt : k < n
    · obtain ⟨g, z, rfl, hg, hz, g0, og⟩ := (HR.out.ext he).get hlt HN.out
      obtain ⟨g', z', rfl, hg', hz', g1, og'⟩ := (HR'.out.ext he).get hlt HN'.out
      have hzz := snd_at HS.out hz.out hz'.out
      rw [← hzz] at og'
      have R1 := Lib.hid (Rd.own og)
      have R2 := Lib.hid (Rd.own og')
      have C := Lib.hid (fun (wx : World) (hx : Ext wr wx) => eqStringS_same (some ⟨z.1, 0, none⟩) (some ⟨z'.1, 0, none⟩) 2 2 2 [z.2.1, z.2.2] wx (by omega) (R1.out.ext hx) (R2.out.ext hx))
      clear hz hz' hzz og og' R1 R2
      go_wp2
      (refine wp_region_ext_lit (by kernel_rfl) (by kernel_rfl) ?_; (repeat (go_big_quiet_step (((go_at_call 37; exact ext_call (C.out _ (ExtOf.ext _))))))); refine wpQuiet_nil ?_; rintro wq ⟨⟨_, heq⟩, rfl⟩; (try dsimp only))
      go_wp2
      go_roundw
      case rel => exact ⟨k + 1, by omega, by go_num, he.trans heq⟩
      case measure => simp [intOf]; omega
    · obtain rfl : k = n := by omega
      go_wp2
      go_ret
      exact ⟨rfl, he⟩
set_option maxHeartbeats 1000000 in
theorem rPairs_same (A A' : Option Addr) (n c c' b b' : Nat) (zs zs' : List Pr) (w : World) (hm : n ≤ 1048576) (hn : zs.length = n) (hn' : zs'.length = n) (hs : zs.map (·.2) = zs'.map (·.2)) (hr : Prs w b (.slice A n c) zs) (hr' : Prs w b' (.slice A' n c') zs') :
    Calls Try.prog 26 #[.slice A n c, .slice A' n c'] w fun e w' => e = .returned (.bool true) ∧ Ext w w' := by
  have HR := Lib.hid hr
  have HR' := Lib.hid hr'
  have HN := Lib.hid hn
  have HN' := Lib.hid hn'
  have HS := Lib.hid hs
  clear hr hr' hn hn' hs
  go_enter Try.func26, Try.ntmps26
  go_wp2
  go_loopw [5] (fun i wr => ∃ k : Nat, k ≤ n ∧ i = .int .i64 k ∧ Ext w wr) (fun i _ => n - (intOf i).toNat)
  case atStart => exact ⟨0, Nat.zero_le _, rfl, Ext.refl _⟩
  case round =>
    obtain ⟨k, hk, rfl, he⟩ := hrel
    by_cases hlt : k < n
    · obtain ⟨g, z, rfl, hg, hz, g0, og⟩ := (HR.out.ext he).get hlt HN.out
      obtain ⟨g', z', rfl, hg', hz', g1, og'⟩ := (HR'.out.ext he).get hlt HN'.out
      have hzz := snd_at HS.out hz.out hz'.out
      rw [← hzz] at og'
      have R1 := Lib.hid (Rd.own og)
      have R2 := Lib.hid (Rd.own og')
      have C := Lib.hid (fun (wx : World) (hx : Ext wr wx) => rTexts_same (some ⟨z.1, 0, none⟩) (some ⟨z'.1, 0, none⟩) 2 2 2 [z.2.1, z.2.2] wx (by omega) (R1.out.ext hx) (R2.out.ext hx))
      clear hz hz' hzz og og' R1 R2
      go_wp2
      (refine wp_region_ext_lit (by kernel_rfl) (by kernel_rfl) ?_; (repeat (go_big_quiet_step (((go_at_call 20; exact ext_call (C.out _ (ExtOf.ext _))))))); refine wpQuiet_nil ?_; rintro wq ⟨⟨_, heq⟩, rfl⟩; (try dsimp only))
      go_wp2
      go_roundw
      case rel => exact ⟨k + 1, by omega, by go_num, he.trans heq⟩
      case measure => simp [intOf]; omega
    · obtain rfl : k = n := by omega
      go_wp2
      go_ret
      exact ⟨rfl, he⟩
def pm (k : Int) : ByteArray × ByteArray := (markS k, markS (k + 1))
theorem marks_two (k : Int) : marks k 2 = [markS k, markS (k + 1)] := by
  simp [marks, List.range_succ]
/-- The first j pairs are marked from k on. -/
def Mk (k : Int) (zs : List Pr) (j : Nat) : Prop := ∀ i z, i < j → zs[i]? = some z → z.2 = pm (k + 2 * i)
theorem Prs.set {w w' : World} {base : Nat} {v : Value} {zs : List Pr} {j : Nat} {z : Pr} {p : ByteArray × ByteArray} (h : Prs w base v zs) (hz : zs[j]? = some z) (hg : w.grownBy w' (some z.1))
    (hn : w'.ownsRow base 9 1 (.slice (some ⟨z.1, 0, none⟩) 2 2) 2 (strs [p.1, p.2])) : Prs w' base v (zs.set j (z.1, p)) := by
  obtain ⟨hj, e⟩ := List.getElem?_eq_some_iff.1 hz
  have hmem := List.getElem_mem hj
  rw [e] at hmem
  have hfst : (zs.set j (z.1, p)).map (·.1) = zs.map (·.1) := by
    apply List.ext_getElem
    · simp
    · intro i h1 h2
      simp only [List.getElem_map, List.getElem_set]
      split
      · rename_i hi; subst hi; rw [e]
      · rfl
  have hpv : ∀ l : List Pr, l.map prV = (l.map (·.1)).map fun g => Value.slice (some ⟨g, 0, none⟩) 2 2 := fun l => by simp [prV, List.map_map, Function.comp_def]
  refine ⟨?_, fun y hy => ?_, ?_⟩
  · rw [List.length_set, hpv, hfst, ← hpv]
    refine h.row.kept hg ?_
    have := own_types h.row (h.each z hmem) (fun e => strT e.symm)
    exact this
  · obtain ⟨i, hi, ey⟩ := List.mem_iff_getElem.1 hy
    rw [List.length_set] at hi
    rw [List.getElem_set] at ey
    split at ey
    · subst ey; exact hn
    · rename_i hij
      have hne : y.1 ≠ z.1 := by
        rcases Nat.lt_or_gt_of_ne hij with hlt | hlt
        · have := (List.pairwise_iff_getElem.1 h.apart) j i hj hi hlt
          rw [ey, e] at this; omega
        · have := (List.pairwise_iff_getElem.1 h.apart) i j hi hj hlt
          rw [ey, e] at this; omega
      have hy2 : y ∈ zs := by rw [← ey]; exact List.getElem_mem hi
      exact (h.each y hy2).kept hg (.inr (by simp only [prV, Value.ownBlock]; intro e2; injection e2 with e2; exact hne e2))
  · have : ((zs.set j (z.1, p)).map (·.1)).Pairwise (· < ·) := by rw [hfst]; exact List.pairwise_map.2 h.apart
    exact List.pairwise_map.1 this
theorem Mk.zero (k : Int) (zs : List Pr) : Mk k zs 0 := fun i z h => by omega
theorem Mk.next {k : Int} {zs : List Pr} {j q : Nat} (h : Mk k zs j) (hj : j < zs.length) : Mk k (zs.set j (q, pm (k + 2 * j))) (j + 1) := fun i z hi hz => by
  by_cases hij : i = j
  · subst hij
    rw [List.getElem?_set_self hj] at hz
    injection hz with hz; rw [← hz]
  · rw [List.getElem?_set_ne (fun e => hij e.symm)] at hz
    exact h i z (by omega) hz
set_option maxHeartbeats 1000000 in
theorem markStringSS_any (A : Option Addr) (n c base : Nat) (zs : List Pr) (k : Int) (w : World) (h1 : 1 ≤ k) (h2 : k + 2 * n ≤ 100000000) (hn : zs.length = n) (ho : Prs w base (.slice A n c) zs) :
    Calls Try.prog 12 #[.slice A n c, .int .i64 k] w fun e w' => e = .returned (.int .i64 (k + 2 * n)) ∧ (∃ zs' : List Pr, zs'.length = n ∧ Prs w' base (.slice A n c) zs' ∧ Mk k zs' n) ∧ Below base w w' := by
  have HO := Lib.hid ho
  have HN := Lib.hid hn
  have hbs : base ≤ w.heap.size ∨ n = 0 := by
    by_cases h0 : n = 0
    · exact .inr h0
    · left
      have hm : zs[0]'(by omega) ∈ zs := List.getElem_mem _
      have := ho.at_lt hm
      omega
  clear ho hn
  go_enter Try.func12, Try.ntmps12
  go_wp2
  go_loopw [1, 5] (fun q i wr => ∃ (j : Nat) (ys : List Pr), j ≤ n ∧ i = .int .i64 j ∧ q = .int .i64 (k + 2 * j) ∧ ys.length = n ∧ Prs wr base (.slice A n c) ys ∧ Mk k ys j ∧ Below base w wr) (fun _ i _ => n - (intOf i).toNat)
  case atStart => exact ⟨0, zs, Nat.zero_le _, rfl, by simp, HN.out, HO.out, Mk.zero _ _, Below.refl _ _⟩
  case round =>
    obtain ⟨j, ys, hj, rfl, rfl, hyl, hp, hmk, hb⟩ := hrel
    have HP := Lib.hid hp
    have HM := Lib.hid hmk
    have HB := Lib.hid hb
    have HY := Lib.hid hyl
    clear hp hmk hb hyl
    by_cases hlt : j < n
    · obtain ⟨g, z, rfl, hg, hz, g0, og⟩ := HP.out.get hlt HY.out
      have OG := Lib.hid og
      clear og
      go_wp2_with fail
      refine (markStringS_any (some ⟨z.1, 0, none⟩) 2 2 base [z.2.1, z.2.2] (k + 2 * j) _ (by omega) (by omega) OG.out).mono ?_
      rintro e wa ⟨rfl, oa, ga⟩
      rw [marks_two] at oa
      have hset := HP.out.set (p := pm (k + 2 * j)) hz.out ga oa
      have hmem := HP.out.at_lt (List.mem_of_getElem? hz.out)
      have HSet := Lib.hid hset
      clear hset oa
      go_wp2
      go_roundw
      case rel => exact ⟨j + 1, ys.set j (z.1, pm (k + 2 * j)), by omega, by go_num, by go_num, by rw [List.length_set]; exact HY.out, HSet.out, HM.out.next (by have := HY.out; omega), Below.grown HB.out ga (by have := Below.size HB.out; omega) (fun q hq => by have hq2 : some z.1 = some q := hq; injection hq2 with hq2; omega)⟩
      case measure => simp [intOf]; omega
    · obtain rfl : j = n := by omega
      go_wp2
      go_ret
      exact ⟨rfl, ⟨ys, HY.out, HP.out, HM.out⟩, HB.out⟩
set_option maxHeartbeats 1000000 in
theorem heldStringSS_any (A : Option Addr) (n c base : Nat) (zs : List Pr) (k : Int) (w : World) (h1 : 1 ≤ k) (h2 : k + 2 * n ≤ 100000000) (hn : zs.length = n) (hr : Prs w base (.slice A n c) zs) (hk : Mk k zs n) :
    Calls Try.prog 13 #[.slice A n c, .int .i64 k] w fun e w' => e = .returned (.int .i64 (k + 2 * n)) ∧ Ext w w' := by
  have HO := Lib.hid hr
  have HN := Lib.hid hn
  have HK := Lib.hid hk
  clear hr hn hk
  go_enter Try.func13, Try.ntmps13
  go_wp2
  go_loopw [1, 5] (fun q i wr => ∃ j : Nat, j ≤ n ∧ i = .int .i64 j ∧ q = .int .i64 (k + 2 * j) ∧ Ext w wr) (fun _ i _ => n - (intOf i).toNat)
  case atStart => exact ⟨0, Nat.zero_le _, rfl, by simp, Ext.refl _⟩
  case round =>
    obtain ⟨j, hj, rfl, rfl, he⟩ := hrel
    by_cases hlt : j < n
    · obtain ⟨g, z, rfl, hg, hz, g0, og⟩ := (HO.out.ext he).get hlt HN.out
      have hzm := HK.out j z hlt hz.out
      rw [hzm] at og
      have hR : Rd wr (some ⟨z.1, 0, none⟩) 2 1 (strs (marks (k + 2 * j) 2)) := by rw [marks_two]; exact Rd.own og
      have R1 := Lib.hid hR
      clear og hR hzm
      go_wp2_with fail
      have C := Lib.hid (show Calls Try.prog 41 #[.slice (some ⟨z.1, 0, none⟩) 2 2, .int .i64 (k + 2 * j)] wr fun e w' => e = .returned (.int .i64 (k + 2 * j + 2)) ∧ Ext wr w' from heldStringS_any (some ⟨z.1, 0, none⟩) 2 2 (k + 2 * j) _ (by omega) (by omega) R1.out)
      refine C.out.mono ?_
      rintro e wa ⟨rfl, ea⟩
      have hd : decide (k + 2 * (j : Int) + 2 < 0) = false := by simp; omega
      go_wp2
      go_roundw
      case rel => exact ⟨j + 1, by omega, by go_num, by go_num, he.trans ea⟩
      case measure => simp [intOf]; omega
    · obtain rfl : j = n := by omega
      go_wp2
      go_ret
      exact ⟨rfl, he⟩
end Go.Proofs.Ytekfccfghmggmaa
