/- KindText: the program's and the reference's. -/
import Derived.Test.YtphalkeokpnpfaaDoorItoa
import Derived.Test.YtphalkeokpnpfaaDoorFreeI
import Derived.Test.YtphalkeokpnpfaaDoorTabLaw1
import Derived.Lib.Join
import Derived.Maps.AppendAt
namespace Go.Proofs.YtphalkeokpnpfaaDoor
open Go.RowKit
set_option linter.unusedVariables false
set_option linter.unusedSimpArgs false
attribute [local go_sem] ExtOf.cell

theorem KT_get {ss ks : List Int} (h : KindOk ss ks = true) {k : Nat} {s v : Int} (h1 : ss[k]? = some s) (h2 : ks[k]? = some v) : 0 ≤ v ∧ v ≤ s - 1 := by
  simp only [KindOk, Bool.and_eq_true, decide_eq_true_eq, List.all_eq_true] at h
  have := h.2 _ (List.mem_of_getElem? (zip_get h2 h1))
  simp only [zbad, Bool.not_not] at this
  exact inB_iff.1 this
theorem KT_small {ss ks : List Int} (h : KindOk ss ks = true) (hs : ∀ s ∈ ss, 1 ≤ s ∧ s ≤ 5) : ∀ v ∈ ks, 0 ≤ v ∧ v < 10 := by
  intro v hv
  obtain ⟨k, hk, rfl⟩ := List.getElem_of_mem hv
  have hl : ks.length = ss.length := by simp only [KindOk, Bool.and_eq_true, decide_eq_true_eq] at h; exact h.1
  have h1 : ss[k]? = some ss[k] := List.getElem?_eq_getElem (by omega)
  have := KT_get h h1 (List.getElem?_eq_getElem hk)
  have := hs _ (List.mem_of_getElem? h1)
  omega
/-- Numbers with a bar between them. -/
def joinB (ks : List Int) : ByteArray := ⟨(Lib.join (ks.map fun v => (numT v).data.toList) [45]).toArray⟩
theorem joinB_nil : joinB [] = ⟨#[]⟩ := rfl
theorem joinB_one (v : Int) : joinB [v] = (⟨#[]⟩ : ByteArray) ++ numT v := by
  apply ByteArray.ext
  apply Array.toList_inj.1
  simp only [joinB, List.map_cons, List.map_nil, Lib.join_one]
  rw [ByteArray.data_append, Array.toList_append]
  rfl
theorem joinB_snoc {ks : List Int} (h : ks ≠ []) (v : Int) : joinB (ks ++ [v]) = (joinB ks ++ (⟨#[45]⟩ : ByteArray)) ++ numT v := by
  cases ks with
  | nil => exact absurd rfl h
  | cons a t =>
    apply ByteArray.ext
    apply Array.toList_inj.1
    rw [ByteArray.data_append, Array.toList_append, ByteArray.data_append, Array.toList_append]
    simp only [joinB, List.cons_append, List.map_cons, List.map_append, List.map_nil, Lib.join_cons, Lib.joinTail]
    simp [List.append_assoc]
theorem lens_digits : ∀ (ks : List Int), (∀ v ∈ ks, 0 ≤ v ∧ v < 10) → Lib.lens (ks.map fun v => (numT v).data.toList) = ks.length
  | [], _ => rfl
  | a :: t, h => by
    have ih := lens_digits t fun v hv => h v (List.mem_cons_of_mem _ hv)
    obtain ⟨h0, h1⟩ := h a (List.mem_cons_self)
    simp only [Lib.lens, List.map_cons, List.sum_cons, List.length_cons] at ih ⊢
    rw [ih, numT_small h0 h1]
    simp; omega
theorem joinB_len (ks : List Int) (h : ∀ v ∈ ks, 0 ≤ v ∧ v < 10) : (Lib.join (ks.map fun v => (numT v).data.toList) [45]).length ≤ 2 * ks.length := by
  cases ks with
  | nil => simp [Lib.join_nil]
  | cons a t =>
    have h2 := lens_digits t fun v hv => h v (List.mem_cons_of_mem _ hv)
    obtain ⟨h0, h1⟩ := h a (List.mem_cons_self)
    rw [List.map_cons, Lib.join_cons, List.length_append, Lib.joinTail_length, h2, numT_small h0 h1]
    simp; omega
theorem joinB_size (ks : List Int) (h : ∀ v ∈ ks, 0 ≤ v ∧ v < 10) : (joinB ks).size ≤ 2 * ks.length := by
  have := joinB_len ks h
  simpa [joinB, ByteArray.size] using this
def kindT (ss : List Int) (bs : List Ban) (ks : List Int) : ByteArray := if freeOf bs ks then joinB ks else joinB ks ++ (⟨#[33]⟩ : ByteArray)
def ktP (ss : List Int) (bs : List Ban) (ks : List Int) : Bool := TabOk ss bs && KindOk ss ks
def ktT (ss : List Int) (bs : List Ban) (ks : List Int) : ByteArray := if ktP ss bs ks then kindT ss bs ks else ⟨#[]⟩

set_option maxRecDepth 100000 in
set_option maxHeartbeats 2000000 in
theorem KindTextS_any (A : Option Addr) (n c : Nat) (B : Option Addr) (m d : Nat) (ss : List Int) (bs : List Ban) (K : Option Addr) (l e : Nat) (ks : List Int) (w : World) (h : TabL w A n B m ss bs) (hl : ks.length = l) (hl2 : l ≤ 1048576) (hk : Rd w K l 1 (ints ks)) :
    Calls Tryd.prog 6 #[.agg #[.slice A n c, .slice B m d], .slice K l e] w fun e w' => e = .returned (.tuple #[.string (ktT ss bs ks), .bool (ktP ss bs ks)]) ∧ Ext w w' := by
  have eW := (Ext.refl w).alloc (.cells #[.slice A n c, .slice B m d] 31)
  have C := Lib.hid (l6Good_any A n c B m d ss bs _ (h.ext eW))
  cases h1 : TabOk ss bs
  · have v1 : ktP ss bs ks = false := by simp [ktP, h1]
    have v2 : ktT ss bs ks = ⟨#[]⟩ := by simp [ktT, v1]
    rw [v1, v2]
    go_enter Tryd.func6, Tryd.ntmps6
    go_wp2_with (go_at_call 28; refine C.out.mono ?_; rintro e we ⟨rfl, he⟩; rw [h1])
    go_ret2
    exact ⟨rfl, eW.trans he⟩
  obtain ⟨⟨t1, t2⟩, t3, t4, t5⟩ := TabOk_all h1
  have D := Lib.hid (fun (w' : World) (he : Ext w w') => l6Kind_any A n c B m d ss bs K l e ks w' (h.ext he) t4 hl hl2 (hk.ext he))
  have hn := h.sl
  cases h2 : KindOk ss ks
  · have v1 : ktP ss bs ks = false := by simp [ktP, h2]
    have v2 : ktT ss bs ks = ⟨#[]⟩ := by simp [ktT, v1]
    rw [v1, v2]
    clear t4 t5 hk
    go_enter Tryd.func6, Tryd.ntmps6
    go_wp2_with (first | (go_at_call 28; refine C.out.mono ?_; rintro e we ⟨rfl, he⟩; rw [h1]; have p0 := he.cell1 (new_cell w #[.slice A n c, .slice B m d] 31 0 _ rfl); have p1 := he.cell1 (new_cell w #[.slice A n c, .slice B m d] 31 1 _ rfl)) | (go_at_call 29; refine (D.out _ (eW.trans he)).mono ?_; rintro e wf ⟨rfl, hf⟩; rw [h2]))
    go_ret2
    exact ⟨rfl, eW.trans (he.trans hf)⟩
  · have hln : l = n := by
      have : ks.length = ss.length := by
        simp only [KindOk, Bool.and_eq_true, decide_eq_true_eq] at h2; exact h2.1
      omega
    subst hln
    have hl5 : l ≤ 5 := by omega
    have HV := Lib.hid (KT_small h2 t4)
    have F := Lib.hid (fun (w' : World) (he : Ext w w') => l6Free_any A l c B m d ss bs K e ks w' (h.ext he) t5 hl (hk.ext he))
    have v1 : ktP ss bs ks = true := by simp [ktP, h1, h2]
    have v2 : ktT ss bs ks = kindT ss bs ks := by simp [ktT, v1]
    rw [v1, v2]
    have HK := Lib.hid hk
    have HL := Lib.hid hl
    clear t1 t2 t4 t5 hk hl
    go_enter Tryd.func6, Tryd.ntmps6
    go_wp2_with (first | (go_at_call 28; refine C.out.mono ?_; rintro e we ⟨rfl, he⟩; rw [h1]; have p0 := he.cell1 (new_cell w #[.slice A l c, .slice B m d] 31 0 _ rfl); have p1 := he.cell1 (new_cell w #[.slice A l c, .slice B m d] 31 1 _ rfl)) | (go_at_call 29; refine (D.out _ (eW.trans he)).mono ?_; rintro e wf ⟨rfl, hf⟩; rw [h2]; have q0 := hf.cell1 p0; have q1 := hf.cell1 p1))
    have E0 := eW.trans (he.trans hf)
    go_loopw [6, 7] (fun s i wr => ∃ k : Nat, k ≤ l ∧ i = .int .i64 k ∧ s = .string (joinB (ks.take k)) ∧ Ext wf wr) (fun _ i _ => l - (intOf i).toNat)
    case atStart => exact ⟨0, Nat.zero_le _, rfl, rfl, Ext.refl _⟩
    case round =>
      obtain ⟨k, hkl, rfl, rfl, hr⟩ := hrel
      have r0 := hr.cell1 q0
      have r1 := hr.cell1 q1
      have ER := Lib.hid (E0.trans hr)
      have hsz : (joinB (ks.take k)).size ≤ 10 := Nat.le_trans (joinB_size _ fun v hv => HV.out v (List.mem_of_mem_take hv)) (by rw [List.length_take]; omega)
      by_cases hlt : k < l
      · obtain ⟨b, off, v, eK, hb, hv, gv⟩ := (HK.out.ext ER.out).int hlt
        subst eK
        obtain ⟨v0, v9⟩ := HV.out v (List.mem_of_getElem? hv.out)
        have hzn : (numT v).size = 1 := by rw [numT_small v0 v9]; rfl
        have HT : ks.take (k + 1) = ks.take k ++ [v] := by rw [List.take_add_one, hv.out]; rfl
        by_cases hk0 : k = 0
        · have d0 : decide ((0 : Int) < k) = false := by simp; omega
          have d1 : decide (0 < k) = false := by simp; omega
          have HJ := Lib.hid (show joinB (ks.take k) ++ numT v = joinB (ks.take (k + 1)) by rw [HT]; subst hk0; rw [List.take_zero, List.nil_append, joinB_one, joinB_nil])
          clear HT hk0
          go_wp2_with (go_at_call 30; refine (l1Num_any _ v _ v0 (Int.le_of_eq (Int.toNat_of_nonneg v0).symm) (by omega)).mono ?_; rintro e wx ⟨rfl, hx⟩)
          go_roundw
          case rel => exact ⟨k + 1, by omega, by go_num, by rw [← HJ.out], hr.trans hx⟩
          case measure => simp [intOf]; omega
        · have d0 : decide ((0 : Int) < k) = true := by simp; omega
          have d1 : decide (0 < k) = true := by simp; omega
          have HJ := Lib.hid (show (joinB (ks.take k) ++ (⟨#[45]⟩ : ByteArray)) ++ numT v = joinB (ks.take (k + 1)) by
            rw [HT, joinB_snoc]
            intro e
            have := congrArg List.length e
            rw [List.length_take, HL.out] at this
            simp at this; omega)
          clear HT hk0
          go_wp2_with (go_at_call 30; refine (l1Num_any _ v _ v0 (Int.le_of_eq (Int.toNat_of_nonneg v0).symm) (by omega)).mono ?_; rintro e wx ⟨rfl, hx⟩)
          go_roundw
          case rel => exact ⟨k + 1, by omega, by go_num, by rw [← HJ.out], hr.trans hx⟩
          case measure => simp [intOf]; omega
      · obtain rfl : k = l := by omega
        have HJ := Lib.hid (show joinB (ks.take k) = joinB ks by rw [List.take_of_length_le (by rw [HL.out]; omega)])
        cases hfr : freeOf bs ks
        · go_wp2_with (go_at_call 31; refine (F.out _ ER.out).mono ?_; rintro e wg ⟨rfl, hg⟩; rw [hfr])
          go_ret2
          exact ⟨by rw [kindT, hfr, ← HJ.out]; rfl, ER.out.trans hg⟩
        · go_wp2_with (go_at_call 31; refine (F.out _ ER.out).mono ?_; rintro e wg ⟨rfl, hg⟩; rw [hfr])
          go_ret2
          exact ⟨by rw [kindT, hfr, ← HJ.out]; rfl, ER.out.trans hg⟩

theorem app_str {ops : Array Oper} {rest : List Oper} {o : Oper} {a : Act} {w : World} {Q : Exit → Act → World → Prop} (hgd : o.guard = none) (s x : Operand)
    (ho : o.op = .call { callee := .builtin .append, args := #[s, x], argTypes := #[74, 74] })
    (base m oc g : Nat) (A : Option Addr) (cs : List Value) (u : ByteArray) (hs : a.eval s = .slice A m oc) (hx : a.eval x = .slice (some ⟨g, 0, none⟩) 1 1)
    (hown : w.ownsRow base 9 1 (.slice A m oc) m cs) (hc : w.cell? ⟨g, 0, none⟩ = some (.string u)) (hm : m ≤ 100000000) (hb : base ≤ w.heap.size)
    (h : ∀ A' c' w', w'.ownsRow base 9 1 (.slice A' (m + 1) c') (m + 1) (cs ++ [.string u]) → w.grownBy w' (Value.ownBlock (.slice A m oc)) → wpList Tryd.prog ops Q rest (a.put o.dst (.slice A' (m + 1) c')) w') : wpList Tryd.prog ops Q (o :: rest) a w := by
  obtain ⟨i0, hi, hz0, hz1, hz2⟩ := info_parts (show (Tryd.prog.info? 9).map (fun i => (i.zero, i.size, i.bytes)) = some (some (.string ⟨#[]⟩), 1, 16) by kernel_rfl)
  refine wpList_append_own w hgd s x 74 ho base 9 i0 (.string ⟨#[]⟩) 1 16 Tryd.underlying74 hi hz0 hz1 hz2 rfl (by decide) (.slice A m oc) m cs hs hown ⟨g, 0, none⟩ 1 1 [.string u] hx rfl ?_ ?_ ?_ ?_ hb ?_
  · intro j u hj
    obtain rfl : j = 0 := by have := (List.getElem?_eq_some_iff.1 hj).1; simpa using this
    simp at hj; subst hj
    rw [Addr.add_zero']; exact hc
  · intro u hu; simp at hu; subst hu; rfl
  · unfold maxLen; omega
  · omega
  · intro v' w' h1 h2 h3
    obtain ⟨A', c', rfl⟩ := own_slice h1
    exact h A' c' w' h1 h2
def nums (ks : List Int) : List ByteArray := ks.map numT
def strV (xs : List ByteArray) : List Value := xs.map fun x => .string x
theorem join_own (w : World) (O : Option Addr) (k oc : Nat) (xs : List ByteArray) (base : Nat) (hl : xs.length = k) (hk1 : 1 ≤ k) (hk : k ≤ 1000) (hj : (Lib.join (xs.map (·.data.toList)) [45]).length ≤ 100000) (h : w.ownsRow base 9 1 (.slice O k oc) k (strV xs)) :
    Calls Tryd.prog 52 #[.slice O k oc, .string ⟨#[45]⟩] w fun e w' => e = .returned (.string ⟨(Lib.join (xs.map (·.data.toList)) [45]).toArray⟩) ∧ Ext w w' := by
  have R := Rd.own h
  obtain ⟨b, off, e, hblt, hc⟩ := R.2 (by omega)
  have hcap : k ≤ oc := by
    rcases h.2 with ⟨_, h0⟩ | ⟨g, cap, cur, hv, _, _, hle, _⟩
    · omega
    · injection hv with _ _ hv; subst hv; exact hle
  subst e
  subst hl
  refine (Tryd.strings_Join b off oc xs ⟨#[45]⟩ w (fun j x hx => hc j _ (by simp [strV, hx])) hblt (by omega) hcap (Nat.le_trans hj (by decide))).mono ?_
  rintro e w' ⟨rfl, hb⟩
  exact ⟨rfl, Ext.of hb⟩
set_option maxRecDepth 100000 in
set_option maxHeartbeats 2000000 in
theorem joinInts_any (K : Option Addr) (l e : Nat) (ks : List Int) (w : World) (hl : ks.length = l) (hl1 : 1 ≤ l) (hl2 : l ≤ 1000) (hv9 : ∀ v ∈ ks, 0 ≤ v ∧ v < 10) (hk : Rd w K l 1 (ints ks)) (ht : TabOkW w) :
    Calls Tryd.prog 35 #[.slice K l e, .string ⟨#[45]⟩] w fun e w' => e = .returned (.string (joinB ks)) ∧ Ext w w' := by
  have HV := Lib.hid hv9
  have HK := Lib.hid hk
  have HL := Lib.hid hl
  have HT := Lib.hid ht
  clear hv9 hk hl ht
  go_enter Tryd.func35, Tryd.ntmps35
  go_wp2
  go_loopw [5, 10] (fun o i wr => ∃ (k : Nat) (O : Option Addr) (oc : Nat), k ≤ l ∧ i = .int .i64 k ∧ o = .slice O k oc ∧ wr.ownsRow w.heap.size 9 1 (.slice O k oc) k (strV (nums (ks.take k))) ∧ Ext w wr) (fun _ i _ => l - (intOf i).toNat)
  case atStart => exact ⟨0, none, 0, Nat.zero_le _, rfl, rfl, own_nil _ _ _ _, Ext.refl _⟩
  case round =>
    obtain ⟨k, O, oc, hkl, rfl, rfl, hO, hr⟩ := hrel
    have HO := Lib.hid hO
    have ER := Lib.hid hr
    clear hO hr
    by_cases hlt : k < l
    · obtain ⟨b, off, v, eK, hb, hv, gv⟩ := (HK.out.ext ER.out).int hlt
      subst eK
      obtain ⟨v0, v9⟩ := HV.out v (List.mem_of_getElem? hv.out)
      go_wp2_with (first
        | (go_at_call 51; refine (Itoa_any v _ (by omega) (by omega) (HT.out.ext ER.out)).mono ?_; rintro e wx ⟨rfl, hx⟩; have HX := Lib.hid hx; clear hx)
        | (at_builtin; refine app_str rfl (.tmp 14) (.tmp 17) rfl w.heap.size k oc wx.heap.size O _ (numT v) rfl rfl ((HX.out.own HO.out).alloc _) (new_cell _ _ _ 0 _ rfl) (by omega) (by have := (ER.out.trans HX.out).size; simp only [World.size_alloc]; omega) ?_; intro A2 c2 w2 o2 g2; have O2 := Lib.hid o2; have EE2 := Lib.hid (((ER.out.trans HX.out).alloc (.cells #[.string (numT v)] 9)).grown g2 (fun k hk => ((HX.out.own HO.out).lt k hk).1)); clear o2 g2))
      go_roundw
      case rel =>
        refine ⟨k + 1, A2, c2, by omega, by go_num, rfl, ?_, EE2.out⟩
        have HT2 : ks.take (k + 1) = ks.take k ++ [v] := by rw [List.take_add_one, hv.out]; rfl
        rw [HT2]
        simpa [nums, strV] using O2.out
      case measure => simp [intOf]; omega
    · obtain rfl : k = l := by omega
      have HJ := Lib.hid (show ks.take k = ks by rw [List.take_of_length_le (by rw [HL.out]; omega)])
      have hlen : (nums ks).length = k := by rw [nums, List.length_map, HL.out]
      have hbk := joinB_len ks HV.out
      have hxs : (nums ks).map (·.data.toList) = ks.map fun v => (numT v).data.toList := by simp [nums]
      go_wp2_with (go_at_call 52; refine (join_own wr O k oc (nums ks) w.heap.size hlen hl1 (by omega) (by rw [hxs]; rw [HL.out] at hbk; omega) (by have := HO.out; rw [HJ.out] at this; exact this)).mono ?_; rintro e wy ⟨rfl, hy⟩)
      go_ret
      exact ⟨rfl, ER.out.trans hy⟩
end Go.Proofs.YtphalkeokpnpfaaDoor
