/- DeadValues: the program's and the reference's entries, the loops. -/
import Derived.Test.YtphalkeokpnpfaaDead
namespace Go.Proofs.Ytphalkeokpnpfaa
open Go.RowKit
set_option linter.unusedVariables false
set_option linter.unusedSimpArgs false
attribute [local go_sem] ExtOf.cell

def DeadPost (L : List Int) (ok : Bool) (w : World) : Ending → World → Prop := RowPost 85 2 (ints L) ok w
set_option maxRecDepth 100000 in
set_option maxHeartbeats 2000000 in
theorem DeadValuesS_any (A : Option Addr) (n c : Nat) (B : Option Addr) (m d : Nat) (ss : List Int) (bs : List Ban) (w : World) (h : TabL w A n B m ss bs) :
    Calls Try.prog 35 #[.agg #[.slice A n c, .slice B m d]] w (DeadPost (deadR ss bs) (TabOk ss bs) w) := by
  have eW := ((Ext.refl w).alloc (.cells #[.slice A n c, .slice B m d] 30)).alloc (.cells #[] 85)
  have hz1 : (w.alloc (.cells #[.slice A n c, .slice B m d] 30)).heap.size = w.heap.size + 1 := by simp
  have o0 := own_empty (w.alloc (.cells #[.slice A n c, .slice B m d] 30)) (w.heap.size + 1) 85 2 (by omega)
  rw [hz1] at o0
  have c0 : ((w.alloc (.cells #[.slice A n c, .slice B m d] 30)).alloc (.cells #[] 85)).cell? ⟨w.heap.size, 0, none⟩ = some (.slice A n c) := ((Ext.refl _).alloc _).cell1 (new_cell _ _ _ 0 _ rfl)
  have c1 : ((w.alloc (.cells #[.slice A n c, .slice B m d] 30)).alloc (.cells #[] 85)).cell? ⟨w.heap.size, 1, none⟩ = some (.slice B m d) := ((Ext.refl _).alloc _).cell1 (new_cell _ _ _ 1 _ rfl)
  have C0 := Lib.hid c0
  have C1 := Lib.hid c1
  have C := Lib.hid (l6Good_any A n c B m d ss bs _ (h.ext eW))
  have O0 := Lib.hid o0
  clear c0 c1 o0
  cases h1 : TabOk ss bs
  · rw [deadR_no h1]
    go_enter Try.func35, Try.ntmps35
    go_wp2_with (go_at_call 53; refine C.out.mono ?_; rintro e we ⟨rfl, he⟩; rw [h1])
    go_ret2
    exact ⟨some ⟨w.heap.size + 1, 0, none⟩, 0, 0, rfl, own_low' (he.own O0.out) (by omega), eW.trans he⟩
  · obtain ⟨⟨t1, t2⟩, t3, t4, t5⟩ := TabOk_all h1
    have D := Lib.hid (fun (t v : Nat) (ht : t < n) (w' : World) (he : Ext w w') => l6With_any A n c B m d ss bs t v w' (h.ext he) t4 t2 t5 (by omega))
    rw [deadR_yes h1]
    have hn := h.sm
    have HN := Lib.hid h.sl
    have HS := Lib.hid t4
    have HLEN := Lib.hid (deadTo_len (deadP ss bs) t4)
    have HP := Lib.hid (deadP_cnt ss bs)
    have hA := allN_small t4 t2
    clear t1 t2 t3 t4 t5
    go_enter Try.func35, Try.ntmps35
    go_wp2_with (go_at_call 53; refine C.out.mono ?_; rintro e we ⟨rfl, he⟩; rw [h1])
    have XB := Lib.hid (show Box2 w (.slice A n c) (.slice B m d) we from ⟨eW.trans he, he.cell1 C0.out, he.cell1 C1.out⟩)
    have O1 := Lib.hid (he.own O0.out)
    clear C0 C1 C O0 eW hz1
    go_loopw [4, 5] (fun o i wr => ∃ (k : Nat) (O : Option Addr) (q oc : Nat) (L : List Int), k ≤ n ∧ i = .int .i64 k ∧ o = .slice O q oc ∧ L = deadTo (deadP ss bs) ss k ∧ wr.ownsRow (w.heap.size + 1) 85 2 (.slice O q oc) q (ints L) ∧ Box2 w (.slice A n c) (.slice B m d) wr) (fun _ i _ => n - (intOf i).toNat)
    case atStart => exact ⟨0, some ⟨w.heap.size + 1, 0, none⟩, 0, 0, [], Nat.zero_le _, rfl, rfl, rfl, O1.out, XB.out⟩
    case round =>
      obtain ⟨k, O, q, oc, L, hkn, rfl, rfl, hL, ho, hek⟩ := hrel
      have HO := Lib.hid ho
      have HLL := Lib.hid hL
      have x0 := hek.c0
      have hz : w.heap.size < wr.heap.size := World.block_lt_of_cell? wr _ x0
      clear ho hL O1
      by_cases hlt : k < n
      · obtain ⟨b, off, s, rfl, hb, hx, gs⟩ := h.sr.int hlt
        have hs5 := HS.out s (List.mem_of_getElem? hx.out)
        obtain ⟨s, rfl⟩ : ∃ t : Nat, s = t := ⟨s.toNat, by omega⟩
        have hs1 : s ≤ 5 := by omega
        have GS := Lib.hid gs
        clear gs hs5
        go_wp2
        obtain ⟨wo, rfl⟩ : ∃ wo : World, wo = wr := ⟨_, rfl⟩
        go_loopw [4, 6] (fun o i wr => ∃ (v : Nat) (O : Option Addr) (q oc : Nat) (L : List Int), v ≤ s ∧ i = .int .i64 v ∧ o = .slice O q oc ∧ L = deadTo (deadP ss bs) ss k ++ deadRow (deadP ss bs) k v ∧ wr.ownsRow (w.heap.size + 1) 85 2 (.slice O q oc) q (ints L) ∧ Box2 w (.slice (some ⟨b, off, none⟩) n c) (.slice B m d) wr) (fun _ i _ => s - (intOf i).toNat)
        case atStart => exact ⟨0, O, q, oc, L, Nat.zero_le _, rfl, rfl, by rw [HLL.out, deadRow_zero, List.append_nil], HO.out, hek⟩
        case round =>
          obtain ⟨v, O, q, oc, L, hvs, rfl, rfl, hL, ho, hev⟩ := hrel
          have HO2 := Lib.hid ho
          have HL2 := Lib.hid hL
          have y0 := hev.c0
          have y1 := hev.c1
          have hzr : w.heap.size < wr.heap.size := World.block_lt_of_cell? wr _ y0
          have gs1 := hev.ext.cell1 GS.out
          have hbr : b < wr.heap.size := World.block_lt_of_cell? wr _ gs1
          have hq2 : q ≤ 1000 := by
            have h1 := ho.1
            rw [ints_length, hL, List.length_append] at h1
            have h2 := HLEN.out k (by have := HN.out; omega)
            have h3 := deadRow_len (deadP ss bs) k v
            have h4 := HN.out
            have h5 : ss.length ≤ 5 := by
              have := TabOk_all (by assumption)
              omega
            omega
          clear ho hL
          by_cases hlv : v < s
          · have D1 := Lib.hid (D.out k v hlt wr hev.ext)
            have hcn := cnt_le (withP ss bs k v) (allN ss)
            cases hp : deadP ss bs k v
            · have hs := Lib.hid (deadRow_no hp)
              rw [HP.out] at hp
              have hp2 : ¬ cnt (withP ss bs k v) (allN ss) = 0 := by simpa using hp
              clear hp
              generalize cnt (withP ss bs k v) (allN ss) = cn at *
              go_wp2_with (go_at_call 61; refine D1.out.mono ?_; rintro e wa ⟨rfl, he1⟩; have hcz : decide ((cn : Int) = 0) = false := by simp; omega)
              go_roundw
              case rel => exact ⟨v + 1, O, q, oc, L, by omega, by go_num, rfl, by rw [hs.out]; exact HL2.out, he1.own HO2.out, hev.step he1⟩
              case measure => simp [intOf]; omega
            · have hs := Lib.hid (deadRow_yes hp)
              rw [HP.out] at hp
              have hp2 : cnt (withP ss bs k v) (allN ss) = 0 := by simpa using hp
              rw [hp2] at D1
              clear hp hp2 hcn
              go_wp2_with (first | (go_at_call 61; refine D1.out.mono ?_; rintro e wa ⟨rfl, he1⟩) | (at_builtin; refine app_pr rfl (.tmp 33) (.tmp 37) rfl (w.heap.size + 1) q oc wa.heap.size O L (k : Int) (v : Int) rfl rfl ((he1.own HO2.out).alloc _) (new_cell _ _ _ 0 _ rfl) (new_cell _ _ _ 1 _ rfl) (by omega) (by have := he1.size; simp only [World.size_alloc]; omega) ?_; intro O' oc' w' hown' hgrow))
              go_roundw
              case rel => exact ⟨v + 1, O', q + 1, oc', L ++ [(k : Int), (v : Int)], by omega, by go_num, rfl, by rw [HL2.out, hs.out, List.append_assoc], hown', ((hev.step he1).step ((Ext.refl _).alloc _)).grow ((he1.own HO2.out).alloc _) hgrow⟩
              case measure => simp [intOf]; omega
          · obtain rfl : v = s := by omega
            go_wp2
            go_roundw
            case rel => exact ⟨k + 1, O, q, oc, L, by omega, by go_num, rfl, by rw [deadTo_succ, sizeAt_get hx.out, Int.toNat_natCast]; exact HL2.out, HO2.out, hev⟩
            case measure => simp [intOf]; omega
      · obtain rfl : k = n := by omega
        go_wp2
        go_ret2
        exact ⟨O, q, oc, rfl, by rw [HN.out, ← HLL.out]; exact own_low' HO.out (by omega), hek.ext⟩
theorem intPair : (3 : Nat) ≠ 85 := by decide
set_option maxRecDepth 100000 in
set_option maxHeartbeats 2000000 in
theorem DeadValuesI_any (A : Option Addr) (n c : Nat) (B : Option Addr) (m d : Nat) (ss : List Int) (bs : List Ban) (w : World) (h : TabL w A n B m ss bs) :
    Calls Try.prog 36 #[.agg #[.slice A n c, .slice B m d]] w (DeadPost (deadR ss bs) (TabOk ss bs) w) := by
  have eW := (Ext.refl w).alloc (.cells #[.slice A n c, .slice B m d] 30)
  have C := Lib.hid (isKindTable_any w.heap.size A n c B m d ss bs _ (h.ext eW) (new_cell _ _ _ 0 _ rfl) (new_cell _ _ _ 1 _ rfl))
  cases h1 : TabOk ss bs
  · rw [deadR_no h1]
    go_enter Try.func36, Try.ntmps36
    go_wp2_with (go_at_call 55; refine C.out.mono ?_; rintro e we ⟨rfl, he⟩; rw [h1])
    go_ret2
    exact ⟨none, 0, 0, rfl, own_nil _ _ _ _, eW.trans he⟩
  · obtain ⟨⟨t1, t2⟩, t3, t4, t5⟩ := TabOk_all h1
    have D := Lib.hid (fun (w' : World) (he : Ext w w') (p0 : w'.cell? ⟨w.heap.size, 0, none⟩ = some (.slice A n c)) (p1 : w'.cell? ⟨w.heap.size, 1, none⟩ = some (.slice B m d)) => kinds_any w.heap.size A n c B m d ss bs w' (h.ext he) p0 p1 t4 t2 t5)
    rw [deadR_yes h1]
    have hn := h.sm
    have hn5 : ss.length ≤ 5 := t2
    have HN := Lib.hid h.sl
    have HS := Lib.hid t4
    have HLEN := Lib.hid (deadTo_len (deadP ss bs) t4)
    have HP := Lib.hid (show ∀ a v : Nat, deadP ss bs a v = !((frees ss bs).any (withQ a v)) from fun a v => rfl)
    have HFL := Lib.hid (fun x => @frees_len ss bs x)
    clear t1 t2 t3 t4 t5
    go_enter Try.func36, Try.ntmps36
    go_wp2_with (first | (go_at_call 55; refine C.out.mono ?_; rintro e we ⟨rfl, he⟩; rw [h1]; have p0 := he.cell1 (new_cell w #[.slice A n c, .slice B m d] 30 0 _ rfl); have p1 := he.cell1 (new_cell w #[.slice A n c, .slice B m d] 30 1 _ rfl)) | (go_at_call 62; refine (D.out _ (eW.trans he) p0 p1).mono ?_; rintro e wf ⟨Z, q, oc, zs, rfl, hzl, hzs, hL, hf⟩; have q0 := hf.cell1 p0; have q1 := hf.cell1 p1; have hzf : w.heap.size < wf.heap.size := World.block_lt_of_cell? wf _ q0))
    have HL := Lib.hid hL
    have HZL := Lib.hid hzl
    have HZS := Lib.hid hzs
    have HZN := Lib.hid (show ∀ z ∈ zs, z.2.length = n from fun z hz => by
      have : z.2 ∈ frees ss bs := by rw [← hzs]; exact List.mem_map_of_mem hz
      rw [HFL.out _ this]; exact HN.out)
    have EW := Lib.hid (eW.trans (he.trans hf))
    have hcap := own_cap hL.row
    rw [hzl] at hcap
    unfold maxLen at hcap
    clear hL hzl hzs C D p0 p1 eW he hf
    go_loopw [5, 15] (fun o i wr => ∃ (k : Nat) (O : Option Addr) (p pc : Nat) (L : List Int), k ≤ n ∧ i = .int .i64 k ∧ o = .slice O p pc ∧ L = deadTo (deadP ss bs) ss k ∧ wr.ownsRow wf.heap.size 85 2 (.slice O p pc) p (ints L) ∧ Ext wf wr) (fun _ i _ => n - (intOf i).toNat)
    case atStart => exact ⟨0, none, 0, 0, [], Nat.zero_le _, rfl, rfl, rfl, own_nil _ _ _ _, Ext.refl _⟩
    case round =>
      obtain ⟨k, O, p, pc, L, hkn, rfl, rfl, hL, ho, hek⟩ := hrel
      have HO := Lib.hid ho
      have HLL := Lib.hid hL
      clear ho hL
      by_cases hlt : k < n
      · obtain ⟨b, off, s, rfl, hb, hx, gs⟩ := (h.sr.ext (EW.out.trans hek)).int hlt
        have hs5 := HS.out s (List.mem_of_getElem? hx.out)
        obtain ⟨s, rfl⟩ : ∃ t : Nat, s = t := ⟨s.toNat, by omega⟩
        have hs1 : s ≤ 5 := by omega
        have BT := Lib.hid (own_low' (own_block wr 3 [.int .i64 (k : Int)]) (Nat.zero_le _))
        clear hs5
        go_wp2
        obtain ⟨wo, rfl⟩ : ∃ wo : World, wo = wr := ⟨_, rfl⟩
        go_loopw [5, 21] (fun o i wr => ∃ (v : Nat) (O : Option Addr) (p pc : Nat) (L : List Int), v ≤ s ∧ i = .int .i64 v ∧ o = .slice O p pc ∧ L = deadTo (deadP ss bs) ss k ++ deadRow (deadP ss bs) k v ∧ wr.ownsRow wf.heap.size 85 2 (.slice O p pc) p (ints L) ∧ Ext wf wr ∧ wr.ownsRow 0 3 1 (.slice (some ⟨wo.heap.size, 0, none⟩) 1 1) 1 [.int .i64 (k : Int)]) (fun _ i _ => s - (intOf i).toNat)
        case atStart => exact ⟨0, O, p, pc, L, Nat.zero_le _, rfl, rfl, by rw [HLL.out, deadRow_zero, List.append_nil], HO.out.alloc _, hek.alloc _, BT.out⟩
        case round =>
          obtain ⟨v, O, p, pc, L, hvs, rfl, rfl, hL, ho, hev, hbt⟩ := hrel
          have HO2 := Lib.hid ho
          have HL2 := Lib.hid hL
          have HBT := Lib.hid hbt
          have hp2 : p ≤ 1000 := by
            have h1 := ho.1
            rw [ints_length, hL, List.length_append] at h1
            have h2 := HLEN.out k (by have := HN.out; omega)
            have h3 := deadRow_len (deadP ss bs) k v
            have h4 := HN.out
            omega
          have a0 := own_at hbt (j := 0) rfl
          have ha0 : wo.heap.size < wr.heap.size := World.block_lt_of_cell? wr _ a0
          clear ho hL hbt
          by_cases hlv : v < s
          · have D1 := Lib.hid (ContainsDead_any wo.heap.size wr.heap.size k (v : Int) Z q oc _ n zs _ (wr.alloc (.cells #[.int .i64 (v : Int)] 3)) (((Ext.refl _).alloc _).cell1 a0) (new_cell _ _ _ 0 _ rfl) hlt hn (HL.out.ext (hev.alloc _)) HZL.out HZN.out HZS.out)
            have HPV := Lib.hid (HP.out k v)
            cases hp : (frees ss bs).any (withQ k v)
            · rw [hp] at D1
              have hs := Lib.hid (deadRow_yes (HPV.out.trans (show _ = true by rw [hp]; rfl)))
              go_wp2_with (first | (go_at_call 71; refine D1.out.mono ?_; rintro e wa ⟨rfl, he1⟩; have b0 := he1.cell1 (((Ext.refl _).alloc _).cell1 a0); have b1 := he1.cell1 (new_cell wr #[.int .i64 (v : Int)] 3 0 _ rfl); have hb0 : wo.heap.size < wa.heap.size := World.block_lt_of_cell? wa _ b0; have hb1 : wr.heap.size < wa.heap.size := World.block_lt_of_cell? wa _ b1; have EA := Lib.hid ((((Ext.refl wr).alloc (.cells #[.int .i64 (v : Int)] 3)).trans he1).alloc (.cells #[.int .i64 (k : Int), .int .i64 (v : Int)] 85))) | (at_builtin; refine app_pr rfl (.tmp 28) (.tmp 32) rfl wf.heap.size p pc wa.heap.size O L (k : Int) (v : Int) rfl rfl (EA.out.own HO2.out) (new_cell _ _ _ 0 _ rfl) (new_cell _ _ _ 1 _ rfl) (by omega) (by have := (hev.trans EA.out).size; exact this) ?_; intro O' oc' w' hown' hgrow))
              go_roundw
              case rel => exact ⟨v + 1, O', p + 1, oc', L ++ [(k : Int), (v : Int)], by omega, by go_num, rfl, by rw [HL2.out, hs.out, List.append_assoc], hown', (hev.trans EA.out).grown hgrow (fun x hx => (HO2.out.lt x hx).1), (EA.out.own HBT.out).kept hgrow (own_types (EA.out.own HBT.out) (EA.out.own HO2.out) intPair)⟩
              case measure => simp [intOf]; omega
            · rw [hp] at D1
              have hs := Lib.hid (deadRow_no (HPV.out.trans (show _ = false by rw [hp]; rfl)))
              go_wp2_with (go_at_call 71; refine D1.out.mono ?_; rintro e wa ⟨rfl, he1⟩)
              have EA := ((Ext.refl wr).alloc (.cells #[.int .i64 (v : Int)] 3)).trans he1
              go_roundw
              case rel => exact ⟨v + 1, O, p, pc, L, by omega, by go_num, rfl, by rw [hs.out]; exact HL2.out, EA.own HO2.out, hev.trans EA, EA.own HBT.out⟩
              case measure => simp [intOf]; omega
          · obtain rfl : v = s := by omega
            go_wp2
            go_roundw
            case rel => exact ⟨k + 1, O, p, pc, L, by omega, by go_num, rfl, by rw [deadTo_succ, sizeAt_get hx.out, Int.toNat_natCast]; exact HL2.out, HO2.out, hev⟩
            case measure => simp [intOf]; omega
      · obtain rfl : k = n := by omega
        go_wp2
        go_ret2
        exact ⟨O, p, pc, rfl, by rw [HN.out, ← HLL.out]; exact own_low' HO.out (EW.out.size), EW.out.trans hek⟩
end Go.Proofs.Ytphalkeokpnpfaa
