/- All compatible kinds of a table: the program's list. -/
import Derived.Test.YtekggbmpogmlcaaDoorDel
import Derived.Test.YtekggbmpogmlcaaDoorApp
namespace Go.Proofs.YtekggbmpogmlcaaDoor
open Go.RowKit
set_option linter.unusedVariables false
set_option linter.unusedSimpArgs false
attribute [local go_sem] ExtOf.cell

theorem app_sl {ops : Array Oper} {rest : List Oper} {o : Oper} {a : Act} {w : World} {Q : Exit → Act → World → Prop} (hgd : o.guard = none) (s x : Operand)
    (ho : o.op = .call { callee := .builtin .append, args := #[s, x], argTypes := #[44, 44] })
    (base m oc g : Nat) (A : Option Addr) (cs : List Value) (B : Option Addr) (l e : Nat) (hs : a.eval s = .slice A m oc) (hx : a.eval x = .slice (some ⟨g, 0, none⟩) 1 1)
    (hown : w.ownsRow base 24 1 (.slice A m oc) m cs) (hc : w.cell? ⟨g, 0, none⟩ = some (.slice B l e)) (hm : m ≤ 100000000) (hb : base ≤ w.heap.size)
    (h : ∀ A' c' w', w'.ownsRow base 24 1 (.slice A' (m + 1) c') (m + 1) (cs ++ [.slice B l e]) → w.grownBy w' (Value.ownBlock (.slice A m oc)) → wpList Tryd.prog ops Q rest (a.put o.dst (.slice A' (m + 1) c')) w') : wpList Tryd.prog ops Q (o :: rest) a w := by
  obtain ⟨i0, hi, hz0, hz1, hz2⟩ := info_parts (show (Tryd.prog.info? 24).map (fun i => (i.zero, i.size, i.bytes)) = some (some (.slice none 0 0), 1, 24) by kernel_rfl)
  refine wpList_append_own w hgd s x 44 ho base 24 i0 (.slice none 0 0) 1 24 Tryd.underlying44 hi hz0 hz1 hz2 rfl (by decide) (.slice A m oc) m cs hs hown ⟨g, 0, none⟩ 1 1 [.slice B l e] hx rfl ?_ ?_ ?_ ?_ hb ?_
  · intro j u hj
    obtain rfl : j = 0 := by have := (List.getElem?_eq_some_iff.1 hj).1; simpa using this
    simp at hj; subst hj
    rw [Addr.add_zero']; exact hc
  · intro u hu; simp at hu; subst hu; rfl
  · unfold maxLen; omega
  · omega
  · intro v' w' h1 h2 h3
    obtain ⟨A', c', rfl⟩ := own_slice h1
    exact h A' c' w' h1 h2
theorem Lists.low {w : World} {b b' : Nat} {v : Value} {zs : List Kd} (h : Lists w b v zs) (hb : b' ≤ b) : Lists w b' v zs := ⟨own_low' h.row hb, fun z hz => own_low' (h.each z hz) hb⟩
theorem snd_get {zs : List Kd} {ls : List (List Int)} (h : zs.map Prod.snd = ls) {k : Nat} {z : Kd} (hz : zs[k]? = some z) : ls[k]? = some z.2 := by
  rw [← h, List.getElem?_map, hz]; rfl
theorem snd_filter (bs : List Ban) (zs : List Kd) : (zs.filter (goodZ bs)).map Prod.snd = (zs.map Prod.snd).filter (freeOf bs) := by
  rw [List.filter_map]; rfl
set_option maxRecDepth 100000 in
set_option maxHeartbeats 2000000 in
theorem kinds_any (g : Nat) (A : Option Addr) (n c : Nat) (B : Option Addr) (m d : Nat) (ss : List Int) (bs : List Ban) (w : World) (h : TabL w A n B m ss bs) (p0 : w.cell? ⟨g, 0, none⟩ = some (.slice A n c)) (p1 : w.cell? ⟨g, 1, none⟩ = some (.slice B m d)) (hs : ∀ s ∈ ss, 1 ≤ s ∧ s ≤ 5) (hl : ss.length ≤ 5) (hf : ∀ b ∈ bs, banFits ss b = true) :
    Calls Tryd.prog 22 #[.pointer (some ⟨g, 0, none⟩)] w fun e w' => ∃ (O : Option Addr) (q oc : Nat) (zs : List Kd), e = .returned (.slice O q oc) ∧ zs.length = q ∧ zs.map Prod.snd = frees ss bs ∧ Lists w' w.heap.size (.slice O q oc) zs ∧ Ext w w' := by
  have eB := (Ext.refl w).alloc (.cells #[.pointer (some ⟨g, 0, none⟩)] 43)
  have HN := Lib.hid h.sl
  have hn := h.sm
  have HS := Lib.hid hs
  have HA := Lib.hid (allN_take_small hs hl)
  have HT := Lib.hid (show ss.take n = ss from List.take_of_length_le (Nat.le_of_eq h.sl))
  have hg : g < w.heap.size := World.block_lt_of_cell? w _ p0
  have HF := Lib.hid hf
  have c0 := Lib.hid (new_cell w #[.pointer (some ⟨g, 0, none⟩)] 43 0 _ rfl)
  have P0 := Lib.hid (eB.cell1 p0)
  have P1 := Lib.hid (eB.cell1 p1)
  have H1 := Lib.hid (h.ext eB)
  clear hs hl hf p1 h
  go_enter Tryd.func22, Tryd.ntmps22
  go_wp2
  have L0 := Lib.hid (show Lists ((w.alloc (.cells #[.pointer (some ⟨g, 0, none⟩)] 43)).alloc (.cells #[.slice none 0 0] 24)) (w.heap.size + 1) (.slice (some ⟨w.heap.size + 1, 0, none⟩) 1 1) [(.slice none 0 0, [])] from ⟨by
    have := own_block (w.alloc (.cells #[.pointer (some ⟨g, 0, none⟩)] 43)) 24 [.slice none 0 0]
    simpa using this, fun z hz => by simp only [List.mem_singleton] at hz; subst hz; exact own_nil _ _ _ _⟩)
  have hsz : (w.alloc (.cells #[.pointer (some ⟨g, 0, none⟩)] 43)).heap.size = w.heap.size + 1 := by simp
  have E1 := Lib.hid ((Ext.refl (w.alloc (.cells #[.pointer (some ⟨g, 0, none⟩)] 43))).alloc (.cells #[.slice none 0 0] 24))
  generalize w.alloc (.cells #[.pointer (some ⟨g, 0, none⟩)] 43) = wb at *
  have HSZ := Lib.hid hsz
  have EB := Lib.hid eB
  clear p0 hsz eB
  go_loopw [3, 16] (fun o i wr => ∃ (k : Nat) (O : Option Addr) (q oc : Nat) (zs : List Kd), k ≤ n ∧ i = .int .i64 k ∧ o = .slice O q oc ∧ zs.length = q ∧ q = allN (ss.take k) ∧ zs.map Prod.snd = kindsTo (ss.take k) q ∧ Lists wr (w.heap.size + 1) (.slice O q oc) zs ∧ Ext wb wr) (fun _ i _ => n - (intOf i).toNat)
  case atStart => exact ⟨0, _, 1, 1, _, Nat.zero_le _, rfl, rfl, rfl, rfl, rfl, L0.out, E1.out⟩
  case round =>
    obtain ⟨k, O, q, oc, zs, hkn, rfl, rfl, hzl, hq, hzs, hL, he⟩ := hrel
    have hA := HA.out k
    rw [← hq] at hA
    have HL := Lib.hid hL
    have HZL := Lib.hid hzl
    have HQ := Lib.hid hq
    have HZS := Lib.hid hzs
    clear hzl hq hzs hL L0
    by_cases hlt : k < n
    · obtain ⟨b, off, s, rfl, hb, hx, gs⟩ := (H1.out.sr.ext he).int hlt
      have hs5 := HS.out s (List.mem_of_getElem? hx.out)
      obtain ⟨s, rfl⟩ : ∃ t : Nat, s = t := ⟨s.toNat, by omega⟩
      have hs1 : 1 ≤ s ∧ s ≤ 5 := by omega
      clear hs5
      have hqs : q * s ≤ 100000 := Nat.le_trans (Nat.mul_le_mul hA.2 hs1.2) (by omega)
      go_wp2
      obtain ⟨wo, rfl⟩ : ∃ wo : World, wo = wr := ⟨_, rfl⟩
      go_loopw [6, 22] (fun o i wr => ∃ (j : Nat) (N : Option Addr) (p nc : Nat) (zn : List Kd), j ≤ q ∧ i = .int .i64 j ∧ o = .slice N p nc ∧ zn.length = p ∧ p = j * s ∧ zn.map Prod.snd = kindsTo (ss.take (k + 1)) p ∧ Lists wr wo.heap.size (.slice N p nc) zn ∧ Ext wo wr) (fun _ i _ => q - (intOf i).toNat)
      case atStart => exact ⟨0, none, 0, 0, [], Nat.zero_le _, rfl, rfl, rfl, by simp, rfl, Lists.nil _ _, Ext.refl _⟩
      case round =>
        obtain ⟨j, N, p, nc, zn, hjq, rfl, rfl, hnl, hp, hzn, hM, hei⟩ := hrel
        have HM := Lib.hid hM
        have HNL := Lib.hid hnl
        have HP := Lib.hid hp
        have HZN := Lib.hid hzn
        clear hnl hp hzn hM
        by_cases hlj : j < q
        · obtain ⟨go, K, e, l, rfl, hgo, hxl, g0, hown⟩ := HL.out.get hlj HZL.out
          have hl1 := snd_get HZS.out hxl.out
          rw [kindsTo_get _ hlj] at hl1
          have hl2 : kindAt (ss.take k) j = l := by injection hl1
          have hlen : l.length = k := by rw [← hl2, kindAt_len, List.length_take, HN.out]; omega
          rw [hlen] at g0 hown
          have g1 := hei.cell1 g0
          have hgo2 : go < wr.heap.size := World.block_lt_of_cell? wr _ g1
          have HOW := Lib.hid hown
          have HLK := Lib.hid hl2
          have HLEN := Lib.hid hlen
          clear hl1 hl2 hlen g0 hown hxl
          go_wp2
          go_loopw [6, 27] (fun o i wr => ∃ (v : Nat) (N : Option Addr) (p nc : Nat) (zn : List Kd), v ≤ s ∧ i = .int .i64 v ∧ o = .slice N p nc ∧ zn.length = p ∧ p = j * s + v ∧ zn.map Prod.snd = kindsTo (ss.take (k + 1)) p ∧ Lists wr wo.heap.size (.slice N p nc) zn ∧ Ext wo wr) (fun _ i _ => s - (intOf i).toNat)
          case atStart => exact ⟨0, N, p, nc, zn, Nat.zero_le _, rfl, rfl, HNL.out, HP.out, HZN.out, HM.out, hei⟩
          case round =>
            obtain ⟨v, N, p, nc, zn, hvs, rfl, rfl, hnl, hp, hzn, hM, hev⟩ := hrel
            have hps : p ≤ 100000 := by
              have : j * s + s ≤ q * s := by rw [← Nat.succ_mul]; exact Nat.mul_le_mul_right _ hlj
              omega
            have HM2 := Lib.hid hM
            have HNL2 := Lib.hid hnl
            have HP2 := Lib.hid hp
            have HZN2 := Lib.hid hzn
            clear hnl hp hzn hM
            by_cases hlv : v < s
            · have RD := Lib.hid (Rd.own (hev.own HOW.out))
              go_wp2_with (first | (go_at_call 38; refine (CloneI_any _ _ _ l _ (by omega) RD.out).mono ?_; rintro e w1 ⟨A1, c1, rfl, o1, e1⟩; have O1 := Lib.hid o1; have EE1 := Lib.hid e1; clear o1 e1) | (at_builtin; refine app_int rfl (.tmp 32) (.tmp 34) rfl wr.heap.size k c1 w1.heap.size A1 l (v : Int) rfl rfl (O1.out.alloc _) (new_cell _ _ _ 0 _ rfl) (by omega) (by have := EE1.out.size; simp only [World.size_alloc]; omega) ?_; intro A2 c2 w2 o2 g2 f2; have O2 := Lib.hid o2; have EE2 := Lib.hid ((EE1.out.alloc (.cells #[.int .i64 (v : Int)] 3)).grown g2 (fun k hk => (O1.out.lt k hk).1)); clear o2 g2 f2) | (at_builtin; refine app_sl rfl (.tmp 30) (.tmp 36) rfl wo.heap.size p nc w2.heap.size N (zn.map Prod.fst) A2 (k + 1) c2 rfl rfl (by have h := (HM2.out.ext (EE2.out.alloc (.cells #[.slice A2 (k + 1) c2] 24))).row; rw [HNL2.out] at h; exact h) (new_cell _ _ _ 0 _ rfl) (by omega) (by have := (hev.trans EE2.out).size; simp only [World.size_alloc]; omega) ?_; intro A3 c3 w3 o3 g3; have O3 := Lib.hid o3; have G3 := Lib.hid g3; clear o3 g3))
              go_roundw
              case rel =>
                have hM3 := HM2.out.ext (EE2.out.alloc (.cells #[.slice A2 (k + 1) c2] 24))
                have hll : (l ++ [(v : Int)]).length = k + 1 := by rw [List.length_append, HLEN.out]; rfl
                have hpush := hM3.push (l := l ++ [(v : Int)]) (u := .slice A2 (k + 1) c2) (by rw [hll]; exact own_low' (((Ext.refl w2).alloc _).own O2.out) hev.size) G3.out (by rw [HNL2.out]; exact O3.out)
                refine ⟨v + 1, A3, p + 1, c3, zn ++ [(.slice A2 (k + 1) c2, l ++ [(v : Int)])], by omega, by go_num, rfl, by simp [HNL2.out], by have := HP2.out; omega, ?_, hpush, ((hev.trans EE2.out).alloc _).grown G3.out (fun k hk => (hM3.row.lt k hk).1)⟩
                rw [List.map_append, HZN2.out, kindsTo_succ]
                have hkn := kind_next (j := j) hx.out (show v < (s : Int).toNat by simpa using hlv)
                rw [Int.toNat_natCast, HLK.out, ← HP2.out] at hkn
                rw [hkn]; rfl
              case measure => simp [intOf]; omega
            · obtain rfl : v = s := by omega
              go_wp2
              go_roundw
              case rel => exact ⟨j + 1, N, p, nc, zn, by omega, by go_num, rfl, HNL2.out, by rw [HP2.out, Nat.succ_mul], HZN2.out, HM2.out, hev⟩
              case measure => simp [intOf]; omega
        · obtain rfl : j = q := by omega
          go_wp2
          go_roundw
          case rel =>
            refine ⟨k + 1, N, p, nc, zn, by omega, by go_num, rfl, HNL.out, ?_, HZN.out, HM.out.low (by have := he.size; have := HSZ.out; omega), he.trans hei⟩
            rw [HP.out, HQ.out]
            have := allN_take hx.out
            rw [Int.toNat_natCast] at this
            exact this.symm
          case measure => simp [intOf]; omega
    · obtain rfl : k = n := by omega
      have hL := HL.out
      rw [← HSZ.out] at hL
      have hzs := HZS.out
      rw [HT.out] at hzs
      have hqa := HQ.out
      rw [HT.out] at hqa
      obtain ⟨o, cap, hv, _, _⟩ := hL.row.form (by rw [HZL.out]; omega)
      have hO : O = some ⟨o, 0, none⟩ := by injection hv
      clear hv
      subst hO
      have hlen : ∀ z ∈ zs, z.2.length = k := fun z hz => by
        have : z.2 ∈ kindsTo ss q := by rw [← hzs]; exact List.mem_map_of_mem hz
        obtain ⟨i, _, hi⟩ := List.mem_map.1 this
        rw [← hi, kindAt_len]; exact HN.out
      have C := Lib.hid (DeleteBad_any g w.heap.size A k c B m d ss bs o q oc zs wb wr he H1.out c0.out P1.out HF.out hL HZL.out hlen)
      have HE := Lib.hid (show (zs.map Prod.snd).filter (freeOf bs) = frees ss bs by rw [hzs, hqa]; rfl)
      clear hL hzs hqa hlen HL HZS HQ
      go_wp2_with (go_at_call 39; refine C.out.mono ?_; rintro e w1 ⟨k1, rfl, z1, l1, e1⟩)
      go_ret
      exact ⟨_, k1, oc, _, rfl, z1, by rw [snd_filter, HE.out], l1.low (by have := HSZ.out; omega), EB.out.trans e1⟩
end Go.Proofs.YtekggbmpogmlcaaDoor
