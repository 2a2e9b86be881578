/- The names of the shades that take in a color. -/
import Derived.Test.YtekfccfghmggmaaShadeB
import Derived.Test.YtekfccfghmggmaaRows2
namespace Go.Proofs.Ytekfccfghmggmaa
open Go.RowKit
set_option linter.unusedVariables false
set_option linter.unusedSimpArgs false
attribute [local go_sem] ExtOf.cell
def namesOf (hue light : Int) (xs : List Shade) : List ByteArray := (xs.filter (takes hue light)).map (·.Name)
def namesR (xs : List Shade) (hue light : Int) : List ByteArray := if bestAsk xs hue light then namesOf hue light xs else []
theorem names_no {hue light : Int} {xs : List Shade} {k : Nat} {x : Shade} (hx : xs[k]? = some x) (ht : takes hue light x = false) : namesOf hue light (xs.take (k + 1)) = namesOf hue light (xs.take k) := by
  obtain ⟨hk, e⟩ := List.getElem?_eq_some_iff.1 hx
  simp [namesOf, List.take_succ_eq_append_getElem hk, List.filter_append, e, ht]
theorem names_yes {hue light : Int} {xs : List Shade} {k : Nat} {x : Shade} (hx : xs[k]? = some x) (ht : takes hue light x = true) : strs (namesOf hue light (xs.take (k + 1))) = strs (namesOf hue light (xs.take k)) ++ [.string x.Name] := by
  obtain ⟨hk, e⟩ := List.getElem?_eq_some_iff.1 hx
  simp [strs, namesOf, List.take_succ_eq_append_getElem hk, List.filter_append, e, ht]
theorem names_len {xs : List Shade} {n : Nat} {hue light : Int} (hn : xs.length = n) : (namesR xs hue light).length ≤ n := by
  unfold namesR namesOf
  split
  · rw [List.length_map]; have := List.length_filter_le (takes hue light) xs; omega
  · simp
theorem stringInfo : (Try.prog.info? 9).map (fun i => (i.zero, i.size, i.bytes)) = some (some (.string ByteArray.empty), 1, 16) := by kernel_rfl

set_option maxRecDepth 100000 in
set_option maxHeartbeats 1000000 in
theorem ShadesOfI_any (A : Option Addr) (n c : Nat) (xs : List Shade) (hue light : Int) (w : World) (h : ShL w A n xs) :
    Calls Try.prog 18 #[.slice A n c, .int .i64 hue, .int .i64 light] w (RowPost 9 1 (strs (namesR xs hue light)) (bestAsk xs hue light) w) := by
  obtain ⟨i0, hi, hz0, hz1, hz2⟩ := info_parts stringInfo
  have hsm := h.small
  rcases chain3 (shadesOk xs) (inB hue 0 359) (inB light 0 100) with h1 | ⟨h1, h2⟩ | ⟨h1, h2, h3⟩ | ⟨h1, h2, h3⟩
  iterate 3
    · have ha : bestAsk xs hue light = false := by simp [bestAsk, *]
      have hr : namesR xs hue light = [] := by simp [namesR, ha]
      rw [ha, hr]
      go_enter Try.func18, Try.ntmps18
      go_wp2_with (first | (go_at_call 35; refine (areShades_L h).mono ?_; rintro e wa ⟨rfl, he1⟩; have hc1 := he1.cells) | (go_at_call 43; refine (isHue_any _ _).mono ?_; rintro e w' ⟨rfl, rfl⟩) | (go_at_call 44; refine (isLight_any _ _).mono ?_; rintro e w' ⟨rfl, rfl⟩))
      go_ret2
      exact ⟨none, 0, 0, rfl, own_nil _ _ _ _, he1⟩
  · have ha : bestAsk xs hue light = true := by simp [bestAsk, h1, h2, h3]
    have hr : namesR xs hue light = namesOf hue light xs := by simp [namesR, ha]
    rw [ha, hr]
    have hg := Lib.hid (shadesOk_good h1)
    obtain ⟨hu1, hu2⟩ := inB_iff.1 h2
    have HI := Lib.hid hi
    have HZ0 := Lib.hid hz0
    have HZ1 := Lib.hid hz1
    have HZ2 := Lib.hid hz2
    clear hi hz0 hz1 hz2 ha hr
    go_enter Try.func18, Try.ntmps18
    go_wp2_with (first | (go_at_call 35; refine (areShades_L h).mono ?_; rintro e wa ⟨rfl, he1⟩; have hc1 := he1.cells) | (go_at_call 43; refine (isHue_any _ _).mono ?_; rintro e w' ⟨rfl, rfl⟩) | (go_at_call 44; refine (isLight_any _ _).mono ?_; rintro e w' ⟨rfl, rfl⟩))
    clear hc1
    go_loopw [8, 26] (fun o i wr => ∃ (k : Nat) (A : Option Addr) (m c : Nat), k ≤ n ∧ m ≤ k ∧ i = .int .i64 k ∧ o = .slice A m c ∧ wr.ownsRow w.heap.size 9 1 (.slice A m c) m (strs (namesOf hue light (xs.take k))) ∧ Ext w wr) (fun _ i _ => n - (intOf i).toNat)
    case atStart => exact ⟨0, none, 0, 0, Nat.zero_le _, Nat.le_refl _, rfl, rfl, own_nil _ _ _ _, he1⟩
    case round =>
      obtain ⟨k, O, m, oc, hk, hmk, rfl, rfl, ho, he⟩ := hrel
      by_cases hlt : k < n
      · obtain ⟨b, off, x, rfl, hb, hx, hxn, g0, g1, g2, g3, g4⟩ := (h.ext he).at_ hlt
        have hxg := hg.out x (List.mem_of_getElem? hx.out)
        cases ht : takes hue light x
        · have hs := Lib.hid (names_no hx.out ht)
          go_wp2_with (go_at_call 45; refine (takes_any x _ _ hxg (by omega) (by omega) _).mono ?_; rintro e wb ⟨rfl, he2⟩)
          go_roundw
          case rel => exact ⟨k + 1, O, m, oc, by omega, by omega, by go_num, rfl, by rw [hs.out]; exact he2.own (ho.alloc _), (he.alloc _).trans he2⟩
          case measure => simp [intOf]; omega
        · have hs := Lib.hid (names_yes hx.out ht)
          go_wp2_with (first
            | (go_at_call 45; refine (takes_any x _ _ hxg (by omega) (by omega) _).mono ?_; rintro e wb ⟨rfl, he2⟩; have hc2 := he2.cells; have hz2 : wr.heap.size < wb.heap.size := (by have h := he2.size; (try simp only [World.size_alloc] at h); omega))
            | (at_builtin; refine wpList_append_own _ rfl (.tmp 34) (.tmp 37) 40 rfl w.heap.size 9 i0 (.string ByteArray.empty) 1 16 Try.underlying40 HI.out HZ0.out HZ1.out HZ2.out rfl (by decide) (.slice O m oc) m (strs (namesOf hue light (xs.take k))) rfl ((he2.own (ho.alloc _)).alloc _) ⟨wb.heap.size, 0, none⟩ 1 1 [.string x.Name] rfl rfl ?c1 ?c2 ?c3 ?c4 ?c5 ?_
               case c1 => exact cell1 _ _ _
               case c2 => simp [Value.oneCell']
               case c3 => unfold maxLen; omega
               case c4 => omega
               case c5 => have := he.size; have := he2.size; simp at *; omega
               intro v' w' hown' hgrow _))
          obtain ⟨O', oc', hv⟩ := own_slice hown'
          go_roundw
          case rel => exact ⟨k + 1, O', m + 1, oc', by omega, by omega, by go_num, hv, by rw [hs.out, ← hv]; exact hown', (((he.alloc _).trans he2).alloc _).grown hgrow (fun k hk => (ho.lt k hk).1)⟩
          case measure => simp [intOf]; omega
      · obtain rfl : n = k := by omega
        rw [List.take_of_length_le (by have := h.len; omega)] at ho
        go_wp2
        go_ret2
        exact ⟨O, m, oc, rfl, ho, he⟩
set_option maxRecDepth 100000 in
set_option maxHeartbeats 1000000 in
theorem ShadesOfS_any (A : Option Addr) (n c : Nat) (xs : List Shade) (hue light : Int) (w : World) (h : ShL w A n xs) :
    Calls Try.prog 19 #[.slice A n c, .int .i64 hue, .int .i64 light] w (RowPost 9 1 (strs (namesR xs hue light)) (bestAsk xs hue light) w) := by
  obtain ⟨i0, hi, hz0, hz1, hz2⟩ := info_parts stringInfo
  have hsm := h.small
  rcases chain3 (shadesOk xs) (inB hue 0 359) (inB light 0 100) with h1 | ⟨h1, h2⟩ | ⟨h1, h2, h3⟩ | ⟨h1, h2, h3⟩
  iterate 3
    · have ha : bestAsk xs hue light = false := by simp [bestAsk, *]
      have hr : namesR xs hue light = [] := by simp [namesR, ha]
      rw [ha, hr]
      go_enter Try.func19, Try.ntmps19
      go_wp2_with (first | (go_at_call 32; refine (l7Good_L (h.ext ((Ext.refl _).alloc _))).mono ?_; rintro e wa ⟨rfl, he1⟩; have hc1 := he1.cells) | (go_at_call 49; refine (l7Hue_any _ _).mono ?_; rintro e w' ⟨rfl, rfl⟩) | (go_at_call 50; refine (l1In_any _ _ _ _).mono ?_; rintro e w' ⟨rfl, rfl⟩))
      go_ret2
      exact ⟨some ⟨w.heap.size, 0, none⟩, 0, 0, rfl, he1.own (own_empty w _ _ _ (Nat.le_refl _)), ((Ext.refl _).alloc _).trans he1⟩
  · have ha : bestAsk xs hue light = true := by simp [bestAsk, h1, h2, h3]
    have hr : namesR xs hue light = namesOf hue light xs := by simp [namesR, ha]
    rw [ha, hr]
    have hg := Lib.hid (shadesOk_good h1)
    obtain ⟨hu1, hu2⟩ := inB_iff.1 h2
    have HI := Lib.hid hi
    have HZ0 := Lib.hid hz0
    have HZ1 := Lib.hid hz1
    have HZ2 := Lib.hid hz2
    clear hi hz0 hz1 hz2 ha hr
    go_enter Try.func19, Try.ntmps19
    go_wp2_with (first | (go_at_call 32; refine (l7Good_L (h.ext ((Ext.refl _).alloc _))).mono ?_; rintro e wa ⟨rfl, he1⟩; have hc1 := he1.cells) | (go_at_call 49; refine (l7Hue_any _ _).mono ?_; rintro e w' ⟨rfl, rfl⟩) | (go_at_call 50; refine (l1In_any _ _ _ _).mono ?_; rintro e w' ⟨rfl, rfl⟩))
    clear hc1
    go_loopw [8, 9] (fun o i wr => ∃ (k : Nat) (A : Option Addr) (m c : Nat), k ≤ n ∧ m ≤ k ∧ i = .int .i64 k ∧ o = .slice A m c ∧ wr.ownsRow w.heap.size 9 1 (.slice A m c) m (strs (namesOf hue light (xs.take k))) ∧ Ext w wr) (fun _ i _ => n - (intOf i).toNat)
    case atStart => exact ⟨0, some ⟨w.heap.size, 0, none⟩, 0, 0, Nat.zero_le _, Nat.le_refl _, rfl, rfl, he1.own (own_empty w _ _ _ (Nat.le_refl _)), ((Ext.refl _).alloc _).trans he1⟩
    case round =>
      obtain ⟨k, O, m, oc, hk, hmk, rfl, rfl, ho, he⟩ := hrel
      by_cases hlt : k < n
      · obtain ⟨b, off, x, rfl, hb, hx, hxn, g0, g1, g2, g3, g4⟩ := (h.ext he).at_ hlt
        have hxg := hg.out x (List.mem_of_getElem? hx.out)
        cases ht : takes hue light x
        · have hs := Lib.hid (names_no hx.out ht)
          go_wp2_with (go_at_call 51; refine (l7Takes_any x _ _ hxg (by omega) (by omega) _).mono ?_; rintro e wb ⟨rfl, he2⟩)
          go_roundw
          case rel => exact ⟨k + 1, O, m, oc, by omega, by omega, by go_num, rfl, by rw [hs.out]; exact he2.own ho, he.trans he2⟩
          case measure => simp [intOf]; omega
        · have hs := Lib.hid (names_yes hx.out ht)
          go_wp2_with (first
            | (go_at_call 51; refine (l7Takes_any x _ _ hxg (by omega) (by omega) _).mono ?_; rintro e wb ⟨rfl, he2⟩; have hc2 := he2.cells; have hz2 : b < wb.heap.size := (by have h := he2.size; omega))
            | (at_builtin; refine wpList_append_own _ rfl (.tmp 38) (.tmp 44) 40 rfl w.heap.size 9 i0 (.string ByteArray.empty) 1 16 Try.underlying40 HI.out HZ0.out HZ1.out HZ2.out rfl (by decide) (.slice O m oc) m (strs (namesOf hue light (xs.take k))) rfl ((he2.own ho).alloc _) ⟨wb.heap.size, 0, none⟩ 1 1 [.string x.Name] rfl rfl ?c1 ?c2 ?c3 ?c4 ?c5 ?_
               case c1 => exact cell1 _ _ _
               case c2 => simp [Value.oneCell']
               case c3 => unfold maxLen; omega
               case c4 => omega
               case c5 => have := he.size; have := he2.size; simp at *; omega
               intro v' w' hown' hgrow _))
          obtain ⟨O', oc', hv⟩ := own_slice hown'
          go_roundw
          case rel => exact ⟨k + 1, O', m + 1, oc', by omega, by omega, by go_num, hv, by rw [hs.out, ← hv]; exact hown', ((he.trans he2).alloc _).grown hgrow (fun k hk => (ho.lt k hk).1)⟩
          case measure => simp [intOf]; omega
      · obtain rfl : n = k := by omega
        rw [List.take_of_length_le (by have := h.len; omega)] at ho
        go_wp2
        go_ret2
        exact ⟨O, m, oc, rfl, ho, he⟩
end Go.Proofs.Ytekfccfghmggmaa
