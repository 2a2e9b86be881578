/- MatchCombs, TurnedCombs: the program's and the reference's entries. -/
import Derived.Test.YtoafaejhabjlnaaDoorCombM
import Derived.Test.YtoafaejhabjlnaaDoorOwn
import Derived.Test.YtoafaejhabjlnaaDoorRows2
namespace Go.Proofs.YtoafaejhabjlnaaDoor
open Go.RowKit
set_option linter.unusedVariables false
set_option linter.unusedSimpArgs false
attribute [local go_sem] ExtOf.cell

def idsOf (p : Comb → Bool) (xs : List Comb) : List Int := (xs.filter p).map Comb.Id
theorem ids_no {p : Comb → Bool} {xs : List Comb} {k : Nat} {x : Comb} (hx : xs[k]? = some x) (hp : p x = false) : idsOf p (xs.take (k + 1)) = idsOf p (xs.take k) := by
  obtain ⟨hk, rfl⟩ := List.getElem?_eq_some_iff.1 hx
  unfold idsOf
  rw [List.take_succ_eq_append_getElem hk, List.filter_append]
  simp [hp]
theorem ids_yes {p : Comb → Bool} {xs : List Comb} {k : Nat} {x : Comb} (hx : xs[k]? = some x) (hp : p x = true) : idsOf p (xs.take (k + 1)) = idsOf p (xs.take k) ++ [x.Id] := by
  obtain ⟨hk, rfl⟩ := List.getElem?_eq_some_iff.1 hx
  unfold idsOf
  rw [List.take_succ_eq_append_getElem hk, List.filter_append]
  simp [hp]
theorem ids_len (p : Comb → Bool) (xs : List Comb) : (idsOf p xs).length ≤ xs.length := by
  unfold idsOf; rw [List.length_map]; exact List.length_filter_le _ _
theorem ids_end {p : Comb → Bool} {xs : List Comb} {n : Nat} (h : xs.length = n) : idsOf p (xs.take n) = idsOf p xs := by rw [List.take_of_length_le (Nat.le_of_eq h)]
def turnB (w h o : Int) (x : Comb) : Bool := !(matchB w h o x) && matchB h w o x
def matchR (xs : List Comb) (w h o : Int) : List Int := if askC xs w h o then idsOf (matchB w h o) xs else []
def turnR (xs : List Comb) (w h o : Int) : List Int := if askC xs w h o then idsOf (turnB w h o) xs else []
set_option maxRecDepth 100000 in
set_option maxHeartbeats 4000000 in
theorem MatchCombsI_any (A : Option Addr) (n c : Nat) (xs : List Comb) (wide high off : Int) (w : World) (h : CombL w A n xs) :
    Calls Tryd.prog 6 #[.slice A n c, .int .i64 wide, .int .i64 high, .int .i64 off] w (RowPost 3 1 (ints (matchR xs wide high off)) (askC xs wide high off) w) := by
  cases ha : askC xs wide high off
  · rw [show matchR xs wide high off = [] by simp [matchR, ha]]
    go_enter Tryd.func6, Tryd.ntmps6
    go_wp2_with (go_at_call 28; refine (measured_any A n c xs wide high off _ h).mono ?_; rintro e wa ⟨rfl, he1⟩; rw [ha])
    go_ret2
    exact ⟨none, 0, 0, rfl, own_nil _ _ _ _, he1⟩
  · rw [show matchR xs wide high off = idsOf (matchB wide high off) xs by simp [matchR, ha]]
    obtain ⟨_, b1, b2, b3⟩ := askC_all ha
    have hsm := h.small
    have MB := Lib.hid (fun (x : Comb) (wx : World) => matches_any x.Id x.Wide x.High x.Line wide high off wx b1 b2 b3)
    clear b1 b2 b3
    go_enter Tryd.func6, Tryd.ntmps6
    go_wp2_with (go_at_call 28; refine (measured_any A n c xs wide high off _ h).mono ?_; rintro e wa ⟨rfl, he1⟩; rw [ha])
    go_loopw [10, 21] (fun o i wr => ∃ (k s oc : Nat) (O : Option Addr) (l : List Int), k ≤ n ∧ i = .int .i64 k ∧ o = .slice O s oc ∧ Hid (l = idsOf (matchB wide high off) (xs.take k)) ∧ s ≤ k ∧ wr.ownsRow w.heap.size 3 1 (.slice O s oc) s (ints l) ∧ Ext w wr) (fun _ i _ => n - (intOf i).toNat)
    case atStart => exact ⟨0, 0, 0, none, [], Nat.zero_le _, rfl, rfl, rfl, Nat.le_refl _, own_nil _ _ _ _, he1⟩
    case round =>
      obtain ⟨k, s, oc, O, l, hk, rfl, rfl, hl, hs, ho, he⟩ := hrel
      have HO := Lib.hid ho
      clear ho
      by_cases hlt : k < n
      · obtain ⟨b, off', x, rfl, hb, hx, g0, g1, g2, g3⟩ := (h.ext he).at_ hlt
        have M := Lib.hid (fun (wx : World) => MB.out x wx)
        cases hp : matchB wide high off x
        · have hn := Lib.hid (ids_no hx.out hp)
          rw [show matchB wide high off ⟨x.Id, x.Wide, x.High, x.Line⟩ = false from hp] at M
          clear hx hp
          go_wp2_with (go_at_call 29; refine (M.out _).mono ?_; rintro e we ⟨rfl, he1⟩; have hc1 := he1.cells; have hz1 : wr.heap.size < we.heap.size := (by have h := he1.size; simp only [World.size_alloc] at h; omega))
          go_roundw
          case rel =>
            have e3 := ((Ext.refl wr).alloc (.cells #[.int .i64 x.Id, .int .i64 x.Wide, .int .i64 x.High, .bool x.Line] 32)).trans he1
            exact ⟨k + 1, s, oc, O, l, by omega, by go_num, rfl, hl.trans hn.out.symm, by omega, e3.own HO.out, he.trans e3⟩
          case measure => simp [intOf]; omega
        · have hn := Lib.hid (ids_yes hx.out hp)
          rw [show matchB wide high off ⟨x.Id, x.Wide, x.High, x.Line⟩ = true from hp] at M
          clear hx hp
          go_wp2_with (first | (go_at_call 29; refine (M.out _).mono ?_; rintro e we ⟨rfl, he1⟩; have hc1 := he1.cells; have hz1 : wr.heap.size < we.heap.size := (by have h := he1.size; simp only [World.size_alloc] at h; omega); have E3 := Lib.hid (((Ext.refl wr).alloc (.cells #[.int .i64 x.Id, .int .i64 x.Wide, .int .i64 x.High, .bool x.Line] 32)).trans he1)) | (at_builtin; refine app_int rfl _ _ rfl w.heap.size s oc we.heap.size O l x.Id rfl rfl ((E3.out.own HO.out).alloc _) (new_cell _ _ _ 0 _ rfl) (by omega) (by have := (he.trans E3.out).size; simp only [World.size_alloc]; omega) ?_; intro O' oc' w' hown hgrow hoff))
          have HE := Lib.hid (((he.trans E3.out).alloc (.cells #[.int .i64 x.Id] 3)).grown hgrow (fun k hk => (HO.out.lt k hk).1))
          have HN := Lib.hid (show l ++ [x.Id] = idsOf (matchB wide high off) (xs.take (k + 1)) from by rw [hn.out, hl])
          have HW := Lib.hid hown
          clear hown hgrow hoff hc1 hz1 he1
          go_roundw
          case rel => exact ⟨k + 1, s + 1, oc', O', l ++ [x.Id], by omega, by go_num, rfl, HN.out, by omega, HW.out, HE.out⟩
          case measure => simp [intOf]; omega
      · obtain rfl : k = n := by omega
        have hn := Lib.hid (hl.trans (ids_end h.len))
        go_wp2
        go_ret2
        exact ⟨O, s, oc, rfl, by rw [← hn.out]; exact HO.out, he⟩
set_option maxRecDepth 100000 in
set_option maxHeartbeats 4000000 in
theorem MatchCombsS_any (A : Option Addr) (n c : Nat) (xs : List Comb) (wide high off : Int) (w : World) (h : CombL w A n xs) :
    Calls Tryd.prog 7 #[.slice A n c, .int .i64 wide, .int .i64 high, .int .i64 off] w (RowPost 3 1 (ints (matchR xs wide high off)) (askC xs wide high off) w) := by
  have e0 := (Ext.refl w).alloc (.cells #[] 3)
  cases ha : askC xs wide high off
  · rw [show matchR xs wide high off = [] by simp [matchR, ha]]
    go_enter Tryd.func7, Tryd.ntmps7
    go_wp2_with (go_at_call 30; refine (l5Asked_any A n c xs wide high off _ (h.ext e0)).mono ?_; rintro e wa ⟨rfl, he1⟩; rw [ha])
    go_ret2
    exact ⟨_, 0, 0, rfl, he1.own (own_empty w _ _ _ (Nat.le_refl _)), e0.trans he1⟩
  · rw [show matchR xs wide high off = idsOf (matchB wide high off) xs by simp [matchR, ha]]
    obtain ⟨_, b1, b2, b3⟩ := askC_all ha
    have hsm := h.small
    have MB := Lib.hid (fun (x : Comb) (wx : World) => l5Match_any x.Id x.Wide x.High x.Line wide high off wx b1 b2 b3)
    clear b1 b2 b3
    go_enter Tryd.func7, Tryd.ntmps7
    go_wp2_with (go_at_call 30; refine (l5Asked_any A n c xs wide high off _ (h.ext e0)).mono ?_; rintro e wa ⟨rfl, he1⟩; rw [ha])
    have O0 := Lib.hid (he1.own (own_empty w w.heap.size 3 1 (Nat.le_refl _)))
    have E0 := Lib.hid (e0.trans he1)
    clear e0 he1
    go_loopw [10, 11] (fun o i wr => ∃ (k s oc : Nat) (O : Option Addr) (l : List Int), k ≤ n ∧ i = .int .i64 k ∧ o = .slice O s oc ∧ Hid (l = idsOf (matchB wide high off) (xs.take k)) ∧ s ≤ k ∧ wr.ownsRow w.heap.size 3 1 (.slice O s oc) s (ints l) ∧ Ext w wr) (fun _ i _ => n - (intOf i).toNat)
    case atStart => exact ⟨0, 0, 0, _, [], Nat.zero_le _, rfl, rfl, rfl, Nat.le_refl _, O0.out, E0.out⟩
    case round =>
      obtain ⟨k, s, oc, O, l, hk, rfl, rfl, hl, hs, ho, he⟩ := hrel
      have HO := Lib.hid ho
      clear ho O0 E0
      by_cases hlt : k < n
      · obtain ⟨b, off', x, rfl, hb, hx, g0, g1, g2, g3⟩ := (h.ext he).at_ hlt
        have M := Lib.hid (fun (wx : World) => MB.out x wx)
        have HG := Lib.hid g0
        cases hp : matchB wide high off x
        · have hn := Lib.hid (ids_no hx.out hp)
          rw [show matchB wide high off ⟨x.Id, x.Wide, x.High, x.Line⟩ = false from hp] at M
          clear hx hp
          go_wp2_with (go_at_call 31; refine (M.out _).mono ?_; rintro e we ⟨rfl, he1⟩)
          go_roundw
          case rel => exact ⟨k + 1, s, oc, O, l, by omega, by go_num, rfl, hl.trans hn.out.symm, by omega, he1.own HO.out, he.trans he1⟩
          case measure => simp [intOf]; omega
        · have hn := Lib.hid (ids_yes hx.out hp)
          rw [show matchB wide high off ⟨x.Id, x.Wide, x.High, x.Line⟩ = true from hp] at M
          clear hx hp
          go_wp2_with (first | (go_at_call 31; refine (M.out _).mono ?_; rintro e we ⟨rfl, he1⟩; have q0 := he1.cell1 HG.out; have hz1 : b < we.heap.size := World.block_lt_of_cell? we _ q0; have E3 := Lib.hid he1; clear g0 g1 g2 g3 hb) | (at_builtin; refine app_int rfl _ _ rfl w.heap.size s oc we.heap.size O l x.Id rfl rfl ((E3.out.own HO.out).alloc _) (new_cell _ _ _ 0 _ rfl) (by omega) (by have := (he.trans E3.out).size; simp only [World.size_alloc]; omega) ?_; intro O' oc' w' hown hgrow hoff))
          have HE := Lib.hid (((he.trans E3.out).alloc (.cells #[.int .i64 x.Id] 3)).grown hgrow (fun k hk => (HO.out.lt k hk).1))
          have HN := Lib.hid (show l ++ [x.Id] = idsOf (matchB wide high off) (xs.take (k + 1)) from by rw [hn.out, hl])
          have HW := Lib.hid hown
          clear hown hgrow hoff
          go_roundw
          case rel => exact ⟨k + 1, s + 1, oc', O', l ++ [x.Id], by omega, by go_num, rfl, HN.out, by omega, HW.out, HE.out⟩
          case measure => simp [intOf]; omega
      · obtain rfl : k = n := by omega
        have hn := Lib.hid (hl.trans (ids_end h.len))
        go_wp2
        go_ret2
        exact ⟨O, s, oc, rfl, by rw [← hn.out]; exact HO.out, he⟩
set_option maxRecDepth 100000 in
set_option maxHeartbeats 4000000 in
theorem TurnedCombsI_any (A : Option Addr) (n c : Nat) (xs : List Comb) (wide high off : Int) (w : World) (h : CombL w A n xs) :
    Calls Tryd.prog 9 #[.slice A n c, .int .i64 wide, .int .i64 high, .int .i64 off] w (RowPost 3 1 (ints (turnR xs wide high off)) (askC xs wide high off) w) := by
  cases ha : askC xs wide high off
  · rw [show turnR xs wide high off = [] by simp [turnR, ha]]
    go_enter Tryd.func9, Tryd.ntmps9
    go_wp2_with (go_at_call 28; refine (measured_any A n c xs wide high off _ h).mono ?_; rintro e wa ⟨rfl, he1⟩; rw [ha])
    go_ret2
    exact ⟨none, 0, 0, rfl, own_nil _ _ _ _, he1⟩
  · rw [show turnR xs wide high off = idsOf (turnB wide high off) xs by simp [turnR, ha]]
    obtain ⟨_, b1, b2, b3⟩ := askC_all ha
    have hsm := h.small
    have MB := Lib.hid (fun (x : Comb) (wx : World) => matches_any x.Id x.Wide x.High x.Line wide high off wx b1 b2 b3)
    have MC := Lib.hid (fun (x : Comb) (wx : World) => matches_any x.Id x.Wide x.High x.Line high wide off wx b2 b1 b3)
    clear b1 b2 b3
    go_enter Tryd.func9, Tryd.ntmps9
    go_wp2_with (go_at_call 28; refine (measured_any A n c xs wide high off _ h).mono ?_; rintro e wa ⟨rfl, he1⟩; rw [ha])
    go_loopw [10, 21] (fun o i wr => ∃ (k s oc : Nat) (O : Option Addr) (l : List Int), k ≤ n ∧ i = .int .i64 k ∧ o = .slice O s oc ∧ Hid (l = idsOf (turnB wide high off) (xs.take k)) ∧ s ≤ k ∧ wr.ownsRow w.heap.size 3 1 (.slice O s oc) s (ints l) ∧ Ext w wr) (fun _ i _ => n - (intOf i).toNat)
    case atStart => exact ⟨0, 0, 0, none, [], Nat.zero_le _, rfl, rfl, rfl, Nat.le_refl _, own_nil _ _ _ _, he1⟩
    case round =>
      obtain ⟨k, s, oc, O, l, hk, rfl, rfl, hl, hs, ho, he⟩ := hrel
      have HO := Lib.hid ho
      clear ho
      by_cases hlt : k < n
      · obtain ⟨b, off', x, rfl, hb, hx, g0, g1, g2, g3⟩ := (h.ext he).at_ hlt
        have M := Lib.hid (fun (wx : World) => MB.out x wx)
        have M' := Lib.hid (fun (wx : World) => MC.out x wx)
        have OB := Lib.hid (own_block wr 32 x.cs)
        cases hp : matchB wide high off x
        · rw [show matchB wide high off ⟨x.Id, x.Wide, x.High, x.Line⟩ = false from hp] at M
          cases hq : matchB high wide off x
          · have hn := Lib.hid (ids_no (p := turnB wide high off) hx.out (by simp [turnB, hq]))
            rw [show matchB high wide off ⟨x.Id, x.Wide, x.High, x.Line⟩ = false from hq] at M'
            clear hx hp hq
            go_wp2_with fail
            refine (M.out _).mono ?_
            rintro e we ⟨rfl, he1⟩
            have p0 := own_at (he1.own OB.out) (j := 0) rfl
            have p1 := own_at (he1.own OB.out) (j := 1) rfl
            have p2 := own_at (he1.own OB.out) (j := 2) rfl
            have p3 := own_at (he1.own OB.out) (j := 3) rfl
            have hz1 : wr.heap.size < we.heap.size := World.block_lt_of_cell? we _ p0
            have E2 := Lib.hid (((Ext.refl wr).alloc (.cells #[.int .i64 x.Id, .int .i64 x.Wide, .int .i64 x.High, .bool x.Line] 32)).trans he1)
            clear he1 g0 g1 g2 g3
            go_wp2_with fail
            refine (M'.out _).mono ?_
            rintro e wf ⟨rfl, he2⟩
            go_wp2
            go_roundw
            case rel =>
              have e3 := E2.out.trans he2
              exact ⟨k + 1, s, oc, O, l, by omega, by go_num, rfl, hl.trans hn.out.symm, by omega, e3.own HO.out, he.trans e3⟩
            case measure => simp [intOf]; omega
          · have hn := Lib.hid (ids_yes (p := turnB wide high off) hx.out (by simp [turnB, hp, hq]))
            rw [show matchB high wide off ⟨x.Id, x.Wide, x.High, x.Line⟩ = true from hq] at M'
            clear hx hp hq
            go_wp2_with fail
            refine (M.out _).mono ?_
            rintro e we ⟨rfl, he1⟩
            have p0 := own_at (he1.own OB.out) (j := 0) rfl
            have p1 := own_at (he1.own OB.out) (j := 1) rfl
            have p2 := own_at (he1.own OB.out) (j := 2) rfl
            have p3 := own_at (he1.own OB.out) (j := 3) rfl
            have hz1 : wr.heap.size < we.heap.size := World.block_lt_of_cell? we _ p0
            have E2 := Lib.hid (((Ext.refl wr).alloc (.cells #[.int .i64 x.Id, .int .i64 x.Wide, .int .i64 x.High, .bool x.Line] 32)).trans he1)
            have OB2 := Lib.hid (he1.own OB.out)
            clear he1 g0 g1 g2 g3
            go_wp2_with fail
            refine (M'.out _).mono ?_
            rintro e wf ⟨rfl, he2⟩
            clear p0 p1 p2 p3 hz1
            have p0 := own_at (he2.own OB2.out) (j := 0) rfl
            have hz1 : wr.heap.size < wf.heap.size := World.block_lt_of_cell? wf _ p0
            have E3 := Lib.hid (E2.out.trans he2)
            clear he2
            go_wp2_with (at_builtin; refine app_int rfl _ _ rfl w.heap.size s oc wf.heap.size O l x.Id rfl rfl ((E3.out.own HO.out).alloc _) (new_cell _ _ _ 0 _ rfl) (by omega) (by have := (he.trans E3.out).size; simp only [World.size_alloc]; omega) ?_; intro O' oc' w' hown hgrow hoff)
            have HE := Lib.hid (((he.trans E3.out).alloc (.cells #[.int .i64 x.Id] 3)).grown hgrow (fun k hk => (HO.out.lt k hk).1))
            have HN := Lib.hid (show l ++ [x.Id] = idsOf (turnB wide high off) (xs.take (k + 1)) from by rw [hn.out, hl])
            have HW := Lib.hid hown
            clear hown hgrow hoff p0 hz1
            go_roundw
            case rel => exact ⟨k + 1, s + 1, oc', O', l ++ [x.Id], by omega, by go_num, rfl, HN.out, by omega, HW.out, HE.out⟩
            case measure => simp [intOf]; omega
        · rw [show matchB wide high off ⟨x.Id, x.Wide, x.High, x.Line⟩ = true from hp] at M
          have hn := Lib.hid (ids_no (p := turnB wide high off) hx.out (by simp [turnB, hp]))
          clear hx hp
          go_wp2_with fail
          refine (M.out _).mono ?_
          rintro e we ⟨rfl, he1⟩
          have E2 := Lib.hid (((Ext.refl wr).alloc (.cells #[.int .i64 x.Id, .int .i64 x.Wide, .int .i64 x.High, .bool x.Line] 32)).trans he1)
          clear he1 g0 g1 g2 g3
          go_wp2
          go_roundw
          case rel => exact ⟨k + 1, s, oc, O, l, by omega, by go_num, rfl, hl.trans hn.out.symm, by omega, E2.out.own HO.out, he.trans E2.out⟩
          case measure => simp [intOf]; omega
      · obtain rfl : k = n := by omega
        have hn := Lib.hid (hl.trans (ids_end h.len))
        go_wp2
        go_ret2
        exact ⟨O, s, oc, rfl, by rw [← hn.out]; exact HO.out, he⟩
set_option maxRecDepth 100000 in
set_option maxHeartbeats 4000000 in
theorem TurnedCombsS_any (A : Option Addr) (n c : Nat) (xs : List Comb) (wide high off : Int) (w : World) (h : CombL w A n xs) :
    Calls Tryd.prog 10 #[.slice A n c, .int .i64 wide, .int .i64 high, .int .i64 off] w (RowPost 3 1 (ints (turnR xs wide high off)) (askC xs wide high off) w) := by
  have e0 := (Ext.refl w).alloc (.cells #[] 3)
  cases ha : askC xs wide high off
  · rw [show turnR xs wide high off = [] by simp [turnR, ha]]
    go_enter Tryd.func10, Tryd.ntmps10
    go_wp2_with (go_at_call 30; refine (l5Asked_any A n c xs wide high off _ (h.ext e0)).mono ?_; rintro e wa ⟨rfl, he1⟩; rw [ha])
    go_ret2
    exact ⟨_, 0, 0, rfl, he1.own (own_empty w _ _ _ (Nat.le_refl _)), e0.trans he1⟩
  · rw [show turnR xs wide high off = idsOf (turnB wide high off) xs by simp [turnR, ha]]
    obtain ⟨_, b1, b2, b3⟩ := askC_all ha
    have hsm := h.small
    have MB := Lib.hid (fun (x : Comb) (wx : World) => l5Match_any x.Id x.Wide x.High x.Line wide high off wx b1 b2 b3)
    have MC := Lib.hid (fun (x : Comb) (wx : World) => l5Match_any x.Id x.Wide x.High x.Line high wide off wx b2 b1 b3)
    clear b1 b2 b3
    go_enter Tryd.func10, Tryd.ntmps10
    go_wp2_with (go_at_call 30; refine (l5Asked_any A n c xs wide high off _ (h.ext e0)).mono ?_; rintro e wa ⟨rfl, he1⟩; rw [ha])
    have O0 := Lib.hid (he1.own (own_empty w w.heap.size 3 1 (Nat.le_refl _)))
    have E0 := Lib.hid (e0.trans he1)
    clear e0 he1
    go_loopw [10, 11] (fun o i wr => ∃ (k s oc : Nat) (O : Option Addr) (l : List Int), k ≤ n ∧ i = .int .i64 k ∧ o = .slice O s oc ∧ Hid (l = idsOf (turnB wide high off) (xs.take k)) ∧ s ≤ k ∧ wr.ownsRow w.heap.size 3 1 (.slice O s oc) s (ints l) ∧ Ext w wr) (fun _ i _ => n - (intOf i).toNat)
    case atStart => exact ⟨0, 0, 0, _, [], Nat.zero_le _, rfl, rfl, rfl, Nat.le_refl _, O0.out, E0.out⟩
    case round =>
      obtain ⟨k, s, oc, O, l, hk, rfl, rfl, hl, hs, ho, he⟩ := hrel
      have HO := Lib.hid ho
      clear ho O0 E0
      by_cases hlt : k < n
      · obtain ⟨b, off', x, rfl, hb, hx, g0, g1, g2, g3⟩ := (h.ext he).at_ hlt
        have M := Lib.hid (fun (wx : World) => MB.out x wx)
        have M' := Lib.hid (fun (wx : World) => MC.out x wx)
        have HG0 := Lib.hid g0
        have HG1 := Lib.hid g1
        have HG2 := Lib.hid g2
        have HG3 := Lib.hid g3
        cases hp : matchB wide high off x
        · rw [show matchB wide high off ⟨x.Id, x.Wide, x.High, x.Line⟩ = false from hp] at M
          cases hq : matchB high wide off x
          · have hn := Lib.hid (ids_no (p := turnB wide high off) hx.out (by simp [turnB, hq]))
            rw [show matchB high wide off ⟨x.Id, x.Wide, x.High, x.Line⟩ = false from hq] at M'
            clear hx hp hq
            go_wp2_with fail
            refine (M.out _).mono ?_
            rintro e we ⟨rfl, he1⟩
            clear g0 g1 g2 g3 hb
            have g0 := he1.cell1 HG0.out
            have g1 := he1.cell1 HG1.out
            have g2 := he1.cell1 HG2.out
            have g3 := he1.cell1 HG3.out
            have hb : b < we.heap.size := World.block_lt_of_cell? we _ g0
            have E2 := Lib.hid he1
            clear he1
            go_wp2_with fail
            refine (M'.out _).mono ?_
            rintro e wf ⟨rfl, he2⟩
            go_wp2
            go_roundw
            case rel =>
              have e3 := E2.out.trans he2
              exact ⟨k + 1, s, oc, O, l, by omega, by go_num, rfl, hl.trans hn.out.symm, by omega, e3.own HO.out, he.trans e3⟩
            case measure => simp [intOf]; omega
          · have hn := Lib.hid (ids_yes (p := turnB wide high off) hx.out (by simp [turnB, hp, hq]))
            rw [show matchB high wide off ⟨x.Id, x.Wide, x.High, x.Line⟩ = true from hq] at M'
            clear hx hp hq
            go_wp2_with fail
            refine (M.out _).mono ?_
            rintro e we ⟨rfl, he1⟩
            clear g0 g1 g2 g3 hb
            have g0 := he1.cell1 HG0.out
            have g1 := he1.cell1 HG1.out
            have g2 := he1.cell1 HG2.out
            have g3 := he1.cell1 HG3.out
            have hb : b < we.heap.size := World.block_lt_of_cell? we _ g0
            have E2 := Lib.hid he1
            clear he1
            go_wp2_with fail
            refine (M'.out _).mono ?_
            rintro e wf ⟨rfl, he2⟩
            have E3 := Lib.hid (E2.out.trans he2)
            clear g0 g1 g2 g3 hb he2
            have g0 := E3.out.cell1 HG0.out
            have hb : b < wf.heap.size := World.block_lt_of_cell? wf _ g0
            go_wp2_with (at_builtin; refine app_int rfl _ _ rfl w.heap.size s oc wf.heap.size O l x.Id rfl rfl ((E3.out.own HO.out).alloc _) (new_cell _ _ _ 0 _ rfl) (by omega) (by have := (he.trans E3.out).size; simp only [World.size_alloc]; omega) ?_; intro O' oc' w' hown hgrow hoff)
            have HE := Lib.hid (((he.trans E3.out).alloc (.cells #[.int .i64 x.Id] 3)).grown hgrow (fun k hk => (HO.out.lt k hk).1))
            have HN := Lib.hid (show l ++ [x.Id] = idsOf (turnB wide high off) (xs.take (k + 1)) from by rw [hn.out, hl])
            have HW := Lib.hid hown
            clear hown hgrow hoff g0 hb
            go_roundw
            case rel => exact ⟨k + 1, s + 1, oc', O', l ++ [x.Id], by omega, by go_num, rfl, HN.out, by omega, HW.out, HE.out⟩
            case measure => simp [intOf]; omega
        · rw [show matchB wide high off ⟨x.Id, x.Wide, x.High, x.Line⟩ = true from hp] at M
          have hn := Lib.hid (ids_no (p := turnB wide high off) hx.out (by simp [turnB, hp]))
          clear hx hp
          go_wp2_with fail
          refine (M.out _).mono ?_
          rintro e we ⟨rfl, he1⟩
          have E2 := Lib.hid he1
          clear he1 g0 g1 g2 g3
          go_wp2
          go_roundw
          case rel => exact ⟨k + 1, s, oc, O, l, by omega, by go_num, rfl, hl.trans hn.out.symm, by omega, E2.out.own HO.out, he.trans E2.out⟩
          case measure => simp [intOf]; omega
      · obtain rfl : k = n := by omega
        have hn := Lib.hid (hl.trans (ids_end h.len))
        go_wp2
        go_ret2
        exact ⟨O, s, oc, rfl, by rw [← hn.out]; exact HO.out, he⟩
end Go.Proofs.YtoafaejhabjlnaaDoor
