/- Certain hues. -/
import Derived.Test.YtekfccfghmggmaaDoorShadeG
import Derived.Test.YtekfccfghmggmaaDoorPlain2
namespace Go.Proofs.YtekfccfghmggmaaDoor
open Go.RowKit
set_option linter.unusedVariables false
set_option linter.unusedSimpArgs false
attribute [local go_sem] ExtOf.cell

def named (nm : ByteArray) (x : Shade) : Bool := x.Name.toList == nm.toList
def sureP (nm : ByteArray) (hue light : Int) (x : Shade) : Bool := takes hue light x == named nm x
def sureAt (xs : List Shade) (nm : ByteArray) (light : Int) (h : Nat) : Bool := xs.all (sureP nm (h : Int) light)
def sureOk (xs : List Shade) (nm : ByteArray) (light : Int) : Bool := shadesOk xs && (inB light 0 100 && xs.any (named nm))
def sureR (xs : List Shade) (nm : ByteArray) (light : Int) : Int := if sureOk xs nm light then (cnt (sureAt xs nm light) 360 : Int) else 0

theorem shades_apart {xs : List Shade} (h : shadesOk xs = true) : xs.Pairwise fun a b => a.Name.toList ≠ b.Name.toList := by
  simp only [shadesOk, Bool.and_eq_true] at h
  have := (adj_pairwise (p := shP) (R := fun a b => Op.bytesLess a.Name.toList b.Name.toList = true) (fun x y hp => by simp only [shP, nameLess, Bool.and_eq_true] at hp; exact hp.2) (fun x y z => bytesLess_trans _ _ _) xs none h.1).1
  exact this.imp (fun {a b} hab e => by rw [e, bytesLess_irrefl] at hab; cases hab)
theorem sure_eq {xs : List Shade} {nm : ByteArray} {x : Shade} {light : Int} {h : Nat} (hv : shadesOk xs = true) (hx : x ∈ xs) (hn : named nm x = true) : sureAt xs nm light h = (takes (h : Int) light x && (xs.countP (takes (h : Int) light) == 1)) := by
  have := key_one (f := fun x : Shade => x.Name.toList) (takes (h : Int) light) (shades_apart hv) hx
  rw [← this]
  unfold sureAt
  congr 1
  funext y
  simp only [named, beq_iff_eq] at hn
  simp [sureP, named, hn]

set_option maxHeartbeats 400000 in
theorem Sure1_any (x : Shade) (nm : ByteArray) (a : Nat) (w : World) (ca : w.cell? ⟨a, 0, none⟩ = some (.string nm)) :
    Calls Tryd.prog 35 #[.agg #[.string x.Name, .int .i64 x.Hue, .int .i64 x.Width, .int .i64 x.Dark, .int .i64 x.Light], .pointer (some ⟨a, 0, none⟩)] w fun e w' =>
      e = .returned (.bool (named nm x)) ∧ Ext w w' := by
  have la : a < w.heap.size := World.block_lt_of_cell? w _ ca
  go_enter Tryd.func35, Tryd.ntmps35
  go_wp2
  go_ret
  exact ⟨rfl, (Ext.refl _).alloc _⟩

set_option maxHeartbeats 400000 in
theorem IndexSure_any (A : Option Addr) (n c : Nat) (xs : List Shade) (nm : ByteArray) (a : Nat) (w : World) (h : ShL w A n xs) (ca : w.cell? ⟨a, 0, none⟩ = some (.string nm)) :
    Calls Tryd.prog 53 #[.slice A n c, .func (.func 35) #[] #[.pointer (some ⟨a, 0, none⟩)]] w fun e w' =>
      e = .returned (.int .i64 (firstAt (named nm) xs)) ∧ Ext w w' := by
  have CA := Lib.hid ca
  have hsm := h.small
  clear ca
  go_enter Tryd.func53, Tryd.ntmps53
  go_wp2
  go_loopw [8] (fun i wr => ∃ k : Nat, k ≤ n ∧ i = .int .i64 k ∧ noneTo (named nm) xs k ∧ Ext w wr) (fun i _ => n - (intOf i).toNat)
  case atStart => exact ⟨0, Nat.zero_le _, rfl, noneTo_zero _ _, Ext.refl _⟩
  case round =>
    obtain ⟨k, hk, rfl, hno, he⟩ := hrel
    have HN := Lib.hid hno
    clear hno
    by_cases hlt : k < n
    · obtain ⟨b', off, x, rfl, hb, hx, hxn, g0, g1, g2, g3, g4⟩ := (h.ext he).at_ hlt
      have C := Lib.hid (Sure1_any x nm a wr (he.cell1 CA.out))
      cases ht : named nm x
      · go_wp2_with (go_at_call 35; refine C.out.mono ?_; rintro e wa ⟨rfl, he1⟩)
        go_roundw
        case rel => exact ⟨k + 1, by omega, by go_num, noneTo_succ HN.out hx.out ht, he.trans he1⟩
        case measure => simp [intOf]; omega
      · go_wp2_with (go_at_call 35; refine C.out.mono ?_; rintro e wa ⟨rfl, he1⟩)
        go_ret
        exact ⟨ret_int (firstAt_hit HN.out hx.out ht).symm, he.trans he1⟩
    · obtain rfl : k = n := by omega
      go_wp2
      go_ret
      exact ⟨ret_int (firstAt_miss (by have := h.len; omega) HN.out).symm, he⟩

set_option maxHeartbeats 400000 in
theorem ContainsSure_any (A : Option Addr) (n c : Nat) (xs : List Shade) (nm : ByteArray) (a : Nat) (w : World) (h : ShL w A n xs) (ca : w.cell? ⟨a, 0, none⟩ = some (.string nm)) :
    Calls Tryd.prog 34 #[.slice A n c, .func (.func 35) #[] #[.pointer (some ⟨a, 0, none⟩)]] w fun e w' =>
      e = .returned (.bool (xs.any (named nm))) ∧ Ext w w' := by
  have C := Lib.hid (IndexSure_any A n c xs nm a w h ca)
  clear ca
  have hl := firstAt_lo (named nm) xs
  have ha := Lib.hid (firstAt_any (named nm) xs)
  generalize firstAt (named nm) xs = f at *
  go_enter Tryd.func34, Tryd.ntmps34
  go_wp2_with (go_at_call 53; refine C.out.mono ?_; rintro e wa ⟨rfl, he1⟩)
  go_ret
  exact ⟨ret_bool ha.out, he1⟩

theorem all_take_succ {α : Type} {p : α → Bool} {xs : List α} {k : Nat} {x : α} (hx : xs[k]? = some x) : (xs.take (k + 1)).all p = ((xs.take k).all p && p x) := by
  obtain ⟨hk, e⟩ := List.getElem?_eq_some_iff.1 hx
  rw [List.take_succ_eq_append_getElem hk, List.all_append, e]; simp

set_option maxRecDepth 100000 in
set_option maxHeartbeats 1000000 in
theorem CertainHuesI_any (A : Option Addr) (n c : Nat) (xs : List Shade) (nm : ByteArray) (light : Int) (w : World) (h : ShL w A n xs) :
    Calls Tryd.prog 11 #[.slice A n c, .string nm, .int .i64 light] w fun e w' => e = .returned (.tuple #[.int .i64 (sureR xs nm light), .bool (sureOk xs nm light)]) ∧ Ext w w' := by
  have hsm := h.small
  rcases chain3 (shadesOk xs) (inB light 0 100) (xs.any (named nm)) with h1 | ⟨h1, h2⟩ | ⟨h1, h2, h3⟩ | ⟨h1, h2, h3⟩
  · go_enter Tryd.func11, Tryd.ntmps11
    go_wp2_with (first | (go_at_call 32; refine (areShades_L (h.ext ((Ext.refl _).alloc _))).mono ?_; rintro e wa ⟨rfl, he1⟩; have hc1 := he1.cells; have hz0 : w.heap.size < wa.heap.size := (by have h := he1.size; (try simp only [World.size_alloc, World.size_drew, szDrewN] at h); omega)) | (go_at_call 33; refine (isLight_any _ _).mono ?_; rintro e w' ⟨rfl, rfl⟩))
    go_ret2
    exact ⟨ret_int_bool (by simp [sureR, sureOk, h1]) (by simp [sureOk, h1]), ((Ext.refl _).alloc _).trans he1⟩
  · go_enter Tryd.func11, Tryd.ntmps11
    go_wp2_with (first | (go_at_call 32; refine (areShades_L (h.ext ((Ext.refl _).alloc _))).mono ?_; rintro e wa ⟨rfl, he1⟩; have hc1 := he1.cells; have hz0 : w.heap.size < wa.heap.size := (by have h := he1.size; (try simp only [World.size_alloc, World.size_drew, szDrewN] at h); omega)) | (go_at_call 33; refine (isLight_any _ _).mono ?_; rintro e w' ⟨rfl, rfl⟩))
    go_ret2
    exact ⟨ret_int_bool (by simp [sureR, sureOk, h1, h2]) (by simp [sureOk, h1, h2]), ((Ext.refl _).alloc _).trans he1⟩
  · go_enter Tryd.func11, Tryd.ntmps11
    go_wp2_with (first | (go_at_call 32; refine (areShades_L (h.ext ((Ext.refl _).alloc _))).mono ?_; rintro e wa ⟨rfl, he1⟩; have hc1 := he1.cells; have hz0 : w.heap.size < wa.heap.size := (by have h := he1.size; (try simp only [World.size_alloc, World.size_drew, szDrewN] at h); omega)) | (go_at_call 33; refine (isLight_any _ _).mono ?_; rintro e w' ⟨rfl, rfl⟩) | (go_at_call 34; refine (ContainsSure_any _ _ _ xs nm _ _ (h.ext (((Ext.refl _).alloc _).trans he1)) (he1.cell1 (by simp [go_sem]))).mono ?_; rintro e wb ⟨rfl, he2⟩))
    go_ret2
    exact ⟨ret_int_bool (by simp [sureR, sureOk, h1, h2, h3]) (by simp [sureOk, h1, h2, h3]), (((Ext.refl _).alloc _).trans he1).trans he2⟩
  · have hg := Lib.hid (shadesOk_good h1)
    go_enter Tryd.func11, Tryd.ntmps11
    go_wp2_with (first | (go_at_call 32; refine (areShades_L (h.ext ((Ext.refl _).alloc _))).mono ?_; rintro e wa ⟨rfl, he1⟩; have hc1 := he1.cells; have hz0 : w.heap.size < wa.heap.size := (by have h := he1.size; (try simp only [World.size_alloc, World.size_drew, szDrewN] at h); omega)) | (go_at_call 33; refine (isLight_any _ _).mono ?_; rintro e w' ⟨rfl, rfl⟩) | (go_at_call 34; refine (ContainsSure_any _ _ _ xs nm _ _ (h.ext (((Ext.refl _).alloc _).trans he1)) (he1.cell1 (by simp [go_sem]))).mono ?_; rintro e wb ⟨rfl, he2⟩))
    have he0 : Ext w wb := (((Ext.refl _).alloc _).trans he1).trans he2
    have CL := Lib.hid (show wb.cell? ⟨w.heap.size, 0, none⟩ = some (.string nm) from he2.cell1 (he1.cell1 (by simp [go_sem])))
    have lw : w.heap.size < wb.heap.size := World.block_lt_of_cell? wb _ CL.out
    clear hc1 hz0 he1 he2
    go_loopw [8, 27] (fun m i wr => ∃ k : Nat, k ≤ 360 ∧ i = .int .i64 k ∧ m = .int .i64 (cnt (sureAt xs nm light) k : Int) ∧ Ext wb wr) (fun _ i _ => 360 - (intOf i).toNat)
    case atStart => exact ⟨0, Nat.zero_le _, rfl, rfl, Ext.refl _⟩
    case round =>
      obtain ⟨k, hk, rfl, rfl, he⟩ := hrel
      have hcl := cnt_le (sureAt xs nm light) k
      obtain ⟨wo, rfl⟩ : ∃ wo : World, wo = wr := ⟨_, rfl⟩
      by_cases hlt : k < 360
      · go_wp2
        go_loopw [10, 32] (fun al j wr => ∃ i : Nat, i ≤ n ∧ j = .int .i64 i ∧ al = .bool ((xs.take i).all (sureP nm (k : Int) light)) ∧ Ext wo wr) (fun _ j _ => n - (intOf j).toNat)
        case atStart => exact ⟨0, Nat.zero_le _, rfl, by simp, Ext.refl _⟩
        case round =>
          obtain ⟨i, hi, rfl, rfl, hei⟩ := hrel
          by_cases hlt2 : i < n
          · obtain ⟨b, off, x, rfl, hb, hx, hxn, g0, g1, g2, g3, g4⟩ := (h.ext (he0.trans (he.trans hei))).at_ hlt2
            have hxg := hg.out x (List.mem_of_getElem? hx.out)
            have hs := Lib.hid (all_take_succ (p := sureP nm (k : Int) light) hx.out)
            have cn := (he.trans hei).cell1 CL.out
            have ln : w.heap.size < wr.heap.size := World.block_lt_of_cell? wr _ cn
            generalize (xs.take i).all (sureP nm (k : Int) light) = al at *
            cases hp : sureP nm (k : Int) light x
            · have hp' : (takes (k : Int) light x == (x.Name.toList == nm.toList)) = false := hp
              have hp2 : (!(takes (k : Int) light x == (x.Name.toList == nm.toList))) = true := by rw [hp']; rfl
              go_wp2
              (refine wp_region_ext_lit (by kernel_rfl) (by kernel_rfl) ?_; (repeat (go_big_quiet_step (((go_at_call 36; exact ext_call (takes_any x _ _ hxg (by omega) (by omega) _)))))); refine wpQuiet_nil ?_; rintro wq ⟨⟨_, heq⟩, rfl⟩; (try dsimp only))
              go_wp2
              go_roundw
              case rel => exact ⟨i + 1, by omega, by go_num, by rw [hs.out, hp]; simp, hei.trans (((Ext.refl _).alloc _).trans heq)⟩
              case measure => simp [intOf]; omega
            · have hp' : (takes (k : Int) light x == (x.Name.toList == nm.toList)) = true := hp
              go_wp2
              (refine wp_region_ext_lit (by kernel_rfl) (by kernel_rfl) ?_; (repeat (go_big_quiet_step (((go_at_call 36; exact ext_call (takes_any x _ _ hxg (by omega) (by omega) _)))))); refine wpQuiet_nil ?_; rintro wq ⟨⟨_, heq⟩, rfl⟩; (try dsimp only))
              go_wp2
              go_roundw
              case rel => exact ⟨i + 1, by omega, by go_num, by rw [hs.out, hp]; simp, hei.trans (((Ext.refl _).alloc _).trans heq)⟩
              case measure => simp [intOf]; omega
          · obtain rfl : i = n := by omega
            have hal : (xs.take i).all (sureP nm (k : Int) light) = sureAt xs nm light k := by
              rw [List.take_of_length_le (by have := h.len; omega)]; rfl
            rw [hal]
            cases ha : sureAt xs nm light k
            · have hs := Lib.hid (cnt_no ha)
              go_wp2
              go_roundw
              case rel => exact ⟨k + 1, by omega, by go_num, by rw [hs.out], he.trans hei⟩
              case measure => simp [intOf]; omega
            · have hs := Lib.hid (cnt_yes ha)
              go_wp2
              go_roundw
              case rel => exact ⟨k + 1, by omega, by go_num, by rw [hs.out]; go_num, he.trans hei⟩
              case measure => simp [intOf]; omega
      · obtain rfl : k = 360 := by omega
        go_wp2
        go_ret2
        exact ⟨ret_int_bool (by simp [sureR, sureOk, h1, h2, h3]) (by simp [sureOk, h1, h2, h3]), he0.trans he⟩
end Go.Proofs.YtekfccfghmggmaaDoor
