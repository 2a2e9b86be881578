/- SameGauges: the program's entry (made by wip/sameg.py). -/
import Derived.Test.YtoafaejhabjlnaaDoorGrp
import Derived.Deep.RegionHeld3
import Derived.Maps.AppendAt
namespace Go.Proofs.YtoafaejhabjlnaaDoor
open Go.RowKit
set_option linter.unusedVariables false
set_option linter.unusedSimpArgs false
attribute [local go_sem] ExtOf.cell

theorem infoComb : (Tryd.prog.info? 32).map (fun i => (i.zero, i.size, i.bytes)) = some (some (.agg #[.int .i64 0, .int .i64 0, .int .i64 0, .bool false]), 4, 32) := by kernel_rfl
theorem combI : (32 : Nat) ≠ 3 := by decide
theorem combTS : (32 : Nat) ≠ 27 := by decide
theorem first_cases {α : Type} (p : α → Bool) (xs : List α) : (firstAt p xs = -1 ∧ xs.any p = false) ∨ ∃ (j : Nat) (y : α), firstAt p xs = j ∧ xs[j]? = some y ∧ p y = true := by
  unfold firstAt
  cases h : xs.findIdx? p with
  | none =>
    rw [List.findIdx?_eq_none_iff] at h
    exact .inl ⟨rfl, List.any_eq_false.2 (fun x hx => by simp [h x hx])⟩
  | some i =>
    rw [List.findIdx?_eq_some_iff_getElem] at h
    obtain ⟨hi, hp, _⟩ := h
    exact .inr ⟨i, xs[i], rfl, List.getElem?_eq_getElem hi, hp⟩
theorem app_comb {ops : Array Oper} {rest : List Oper} {o : Oper} {a : Act} {w : World} {Q : Exit → Act → World → Prop} (hgd : o.guard = none) (s x : Operand)
    (ho : o.op = .call { callee := .builtin .append, args := #[s, x], argTypes := #[24, 24] })
    (base n c : Nat) (A : Option Addr) (xs : List Value) (r : Comb) (bv gp : Nat) (hs : a.eval s = .slice A n c) (hx : a.eval x = .slice (some ⟨gp, 0, none⟩) 1 1)
    (hown : w.ownsRow base 32 4 (.slice A n c) n xs) (hv : w.ownsRow bv 32 4 (.slice (some ⟨gp, 0, none⟩) 1 1) 1 r.cs) (hn : n ≤ 1048576) (hb : base ≤ w.heap.size)
    (h : ∀ A' c' w', w'.ownsRow base 32 4 (.slice A' (n + 1) c') (n + 1) (xs ++ r.cs) → w.grownBy w' (Value.ownBlock (.slice A n c)) → wpList Tryd.prog ops Q rest (a.put o.dst (.slice A' (n + 1) c')) w') : wpList Tryd.prog ops Q (o :: rest) a w := by
  obtain ⟨i0, hi, hz0, hz1, hz2⟩ := info_parts infoComb
  refine wpList_append_own w hgd s x 24 ho base 32 i0 (.agg #[.int .i64 0, .int .i64 0, .int .i64 0, .bool false]) 4 32 Tryd.underlying24 hi hz0 hz1 hz2 rfl (by decide) (.slice A n c) n xs hs hown ⟨gp, 0, none⟩ 1 1 r.cs hx rfl
    (fun j u hj => by rw [Addr.add_mid, Nat.zero_add]; exact own_at hv hj) (Comb.one r) (by unfold maxLen; omega) (by omega) hb ?_
  intro v' w' h1 h2 h3
  obtain ⟨A', c', rfl⟩ := own_slice h1
  exact h A' c' w' h1 h2
theorem app_sl {ops : Array Oper} {rest : List Oper} {o : Oper} {a : Act} {w : World} {Q : Exit → Act → World → Prop} (hgd : o.guard = none) (s x : Operand)
    (ho : o.op = .call { callee := .builtin .append, args := #[s, x], argTypes := #[34, 34] })
    (base m oc g : Nat) (A : Option Addr) (cs : List Value) (B : Option Addr) (l e : Nat) (hs : a.eval s = .slice A m oc) (hx : a.eval x = .slice (some ⟨g, 0, none⟩) 1 1)
    (hown : w.ownsRow base 27 1 (.slice A m oc) m cs) (hc : w.cell? ⟨g, 0, none⟩ = some (.slice B l e)) (hm : m ≤ 100000000) (hb : base ≤ w.heap.size)
    (h : ∀ A' c' w', w'.ownsRow base 27 1 (.slice A' (m + 1) c') (m + 1) (cs ++ [.slice B l e]) → w.grownBy w' (Value.ownBlock (.slice A m oc)) → wpList Tryd.prog ops Q rest (a.put o.dst (.slice A' (m + 1) c')) w') : wpList Tryd.prog ops Q (o :: rest) a w := by
  obtain ⟨i0, hi, hz0, hz1, hz2⟩ := info_parts (show (Tryd.prog.info? 27).map (fun i => (i.zero, i.size, i.bytes)) = some (some (.slice none 0 0), 1, 24) by kernel_rfl)
  refine wpList_append_own w hgd s x 34 ho base 27 i0 (.slice none 0 0) 1 24 Tryd.underlying34 hi hz0 hz1 hz2 rfl (by decide) (.slice A m oc) m cs hs hown ⟨g, 0, none⟩ 1 1 [.slice B l e] hx rfl ?_ ?_ ?_ ?_ hb ?_
  · intro j u hj
    obtain rfl : j = 0 := by have := (List.getElem?_eq_some_iff.1 hj).1; simpa using this
    simp at hj; subst hj
    rw [Addr.add_zero']; exact hc
  · intro u hu; simp at hu; subst hu; rfl
  · unfold maxLen; omega
  · omega
  · intro v' w' h1 h2 h3
    obtain ⟨A', c', rfl⟩ := own_slice h1
    exact h A' c' w' h1 h2
theorem step_int_at {ops : Array Oper} {o : Oper} {a : Act} {w : World} {K : Act → World → Prop} {Q : Exit → Act → World → Prop} {E : Prop} (hgd : o.guard = none) (s x : Operand)
    (ho : o.op = .call { callee := .builtin .append, args := #[s, x], argTypes := #[27, 27] })
    (base m oc g : Nat) (A : Option Addr) (l : List Int) (v : Int) (hs : a.eval s = .slice A m oc) (hx : a.eval x = .slice (some ⟨g, 0, none⟩) 1 1)
    (hown : w.ownsRow base 3 1 (.slice A m oc) m (ints l)) (hc : w.cell? ⟨g, 0, none⟩ = some (.int .i64 v)) (hm : m ≤ 100000000) (hb : base ≤ w.heap.size) (k : Nat) (hd : o.dst = some k)
    (h : ∀ A' c' w', w'.ownsRow base 3 1 (.slice A' (m + 1) c') (m + 1) (ints (l ++ [v])) → w.grownBy w' (Value.ownBlock (.slice A m oc)) → (∀ gg, Off A gg → gg < w.heap.size → Off A' gg) → K (a.put (some k) (.slice A' (m + 1) c')) w') :
    if Region.wanted o (yielded ops a.tmps) = true then Oper.wp Tryd.prog o a w K Q else E := by
  have hw : Region.wanted o (yielded ops a.tmps) = true := by simp [Region.wanted, hgd]
  rw [if_pos hw]
  obtain ⟨i0, hi, hz0, hz1, hz2⟩ := info_parts intInfo
  obtain ⟨v', w', hr, h1, h2, _, h4⟩ := run_append_own_at (P := Tryd.prog) w base 27 o.type 3 i0 (.int .i64 0) 1 8 Tryd.underlying27 hi hz0 hz1 hz2 rfl (by decide) (.slice A m oc) m (ints l) hown ⟨g, 0, none⟩ 1 1 [.int .i64 v] rfl
    (fun j u hj => by
      obtain rfl : j = 0 := by have := (List.getElem?_eq_some_iff.1 hj).1; simpa using this
      simp at hj; subst hj
      rw [Addr.add_zero']; exact hc)
    (fun u hu => by simp at hu; subst hu; rfl) (by unfold maxLen; omega) (by omega) hb
  unfold Oper.wp execOp
  simp only [ho, resolve, invoke, builtin, Sem.run_bind, Sem.run_pure, Result.andThen_ok, List.map_toArray, List.map_cons, List.map_nil, hs, hx, hr]
  obtain ⟨A', c', rfl⟩ := own_slice h1
  suffices hk : K (a.put o.dst (.slice A' (m + 1) c')) w' from hk
  rw [hd]
  refine h A' c' w' ?_ h2 ?_
  · rw [show ints (l ++ [v]) = ints l ++ [.int .i64 v] by simp [ints]]; exact h1
  · intro gg hA hlt b o s e
    subst e
    rcases h4 with h4 | h4
    · rcases hA.row (m := m) (c := oc) with k | k
      · rw [← h4] at k; cases k
      · rw [← h4] at k; intro e; apply k; rw [e]; rfl
    · injection h4 with h4
      show b ≠ gg
      have : b = w.heap.size := h4
      omega
theorem new_cell9 (w : World) (v : Value) (T g : Nat) (h : w.heap.size = g) : (w.alloc (.cells #[v] T)).cell? ⟨g, 0, none⟩ = some v := by
  subst h; exact new_cell _ _ _ 0 _ rfl
theorem Grp.past {w w' : World} {base b T s k : Nat} {v u : Value} {zs : List Kd} {cs : List Value} (h : Grp w base v zs) (ho : w.ownsRow b T s u k cs) (h1 : 3 ≠ T) (h2 : 27 ≠ T) (hg : w.grownBy w' u.ownBlock) : Grp w' base v zs :=
  ⟨⟨h.ls.row.kept hg (own_types h.ls.row ho h2), fun z hz => (h.ls.each z hz).kept hg (own_types (h.ls.each z hz) ho h1)⟩, h.apart⟩
/-- What a round holds ahead of its last step: the groups, the first ones, the comb's box. -/
structure GSt (w0 : World) (xb : Nat) (x : Comb) (F : Option Addr) (m fc : Nat) (fs : List Comb) (O : Option Addr) (oc : Nat) (zs : List Kd) (W : World) : Prop where
  grp : Grp W w0.heap.size (.slice O m oc) zs
  len : zs.length = m
  fr : W.ownsRow w0.heap.size 32 4 (.slice F m fc) m (fs.flatMap Comb.cs)
  box : W.ownsRow xb 32 4 (.slice (some ⟨xb, 0, none⟩) 1 1) 1 x.cs
  ext : Ext w0 W
section
variable {w0 W W1 : World} {xb m fc oc q j e e' : Nat} {x : Comb} {F A A' : Option Addr} {fs : List Comb} {zs : List Kd} {l : List Int} {v : Int}
theorem GSt.step {O : Option Addr} (h : GSt w0 xb x F m fc fs O oc zs W) (he : Ext W W1) : GSt w0 xb x F m fc fs O oc zs W1 := ⟨h.grp.ext he, h.len, he.own h.fr, he.own h.box, h.ext.trans he⟩
theorem GSt.row1 (h : GSt w0 xb x F m fc fs (some ⟨q, 0, none⟩) oc zs W) (hz : zs[j]? = some (.slice A l.length e, l)) (hg : W.grownBy W1 (Value.ownBlock (.slice A l.length e))) :
    W1.ownsRow w0.heap.size 27 1 (.slice (some ⟨q, 0, none⟩) m oc) m (zs.map Prod.fst) := by
  have hrow := h.grp.ls.row
  rw [h.len] at hrow
  exact hrow.kept hg (own_types hrow (h.grp.ls.each _ (List.mem_of_getElem? hz)) (fun e => intT e.symm))
theorem GSt.grow (h : GSt w0 xb x F m fc fs (some ⟨q, 0, none⟩) oc zs W) (hz : zs[j]? = some (.slice A l.length e, l)) (hr : W1.ownsRow w0.heap.size 3 1 (.slice A' (l.length + 1) e') (l.length + 1) (ints (l ++ [v]))) (_ : l.length = l.length)
    (hg : W.grownBy W1 (Value.ownBlock (.slice A l.length e))) (ho : ∀ gg, Off A gg → gg < W.heap.size → Off A' gg) :
    Grp (W1.setCell ⟨q, j, none⟩ (.slice A' (l.length + 1) e')) w0.heap.size (.slice (some ⟨q, 0, none⟩) m oc) (zs.set j (.slice A' (l.length + 1) e', l ++ [v])) ∧
      (W1.setCell ⟨q, j, none⟩ (.slice A' (l.length + 1) e')).ownsRow w0.heap.size 32 4 (.slice F m fc) m (fs.flatMap Comb.cs) ∧ Ext w0 (W1.setCell ⟨q, j, none⟩ (.slice A' (l.length + 1) e')) := by
  obtain ⟨g1, g2⟩ := h.grp.grow h.len hz hr rfl hg ho
  have hjm := h.grp.ls.each _ (List.mem_of_getElem? hz)
  have row1 := h.row1 hz hg
  have f1 := h.fr.kept hg (own_types h.fr hjm combI)
  have hq := (row1.lt q rfl).1
  refine ⟨g1, f1.kept g2 (own_types f1 row1 combTS), ?_⟩
  exact (h.ext.grown hg (fun k hk => (hjm.lt k hk).1)).row g2 hq
end

set_option maxHeartbeats 1000000 in
theorem Same1_any (y x : Comb) (b : Nat) (w : World) (c1 : w.cell? ⟨b, 1, none⟩ = some (.int .i64 x.Wide)) (c2 : w.cell? ⟨b, 2, none⟩ = some (.int .i64 x.High)) :
    Calls Tryd.prog 34 #[.agg #[.int .i64 y.Id, .int .i64 y.Wide, .int .i64 y.High, .bool y.Line], .pointer (some ⟨b, 0, none⟩)] w fun e w' => e = .returned (.bool (same x y)) ∧ Ext w w' := by
  have la : b < w.heap.size := World.block_lt_of_cell? w _ c1
  have la2 : ¬ b = w.heap.size := by omega
  cases h1 : (x.Wide == y.Wide)
  · go_enter Tryd.func34, Tryd.ntmps34
    go_wp2
    go_ret
    exact ⟨ret_bool (by simp [same, h1]), (by repeat (first | exact Ext.refl _ | assumption | refine Ext.trans ?_ (by assumption) | refine Ext.drew ?_ | refine Ext.drewN ?_ _ | refine Ext.alloc ?_ _))⟩
  · cases h2 : (x.High == y.High)
    all_goals
      go_enter Tryd.func34, Tryd.ntmps34
      go_wp2
      go_ret
      exact ⟨ret_bool (by simp [same, h1, h2]), (by repeat (first | exact Ext.refl _ | assumption | refine Ext.trans ?_ (by assumption) | refine Ext.drew ?_ | refine Ext.drewN ?_ _ | refine Ext.alloc ?_ _))⟩
set_option maxRecDepth 100000 in
set_option maxHeartbeats 1000000 in
theorem IndexSame_any (A : Option Addr) (n c : Nat) (xs : List Comb) (x : Comb) (b : Nat) (w : World) (h : CombL w A n xs) (c1 : w.cell? ⟨b, 1, none⟩ = some (.int .i64 x.Wide)) (c2 : w.cell? ⟨b, 2, none⟩ = some (.int .i64 x.High)) :
    Calls Tryd.prog 33 #[.slice A n c, .func (.func 34) #[] #[.pointer (some ⟨b, 0, none⟩)]] w fun e w' => e = .returned (.int .i64 (firstAt (same x) xs)) ∧ Ext w w' := by
  have C1 := Lib.hid c1
  have C2 := Lib.hid c2
  clear c1 c2
  have hsm := h.small
  go_enter Tryd.func33, Tryd.ntmps33
  go_wp2
  go_loopw [8] (fun i wr => ∃ k : Nat, k ≤ n ∧ i = .int .i64 k ∧ noneTo (same x) xs k ∧ Ext w wr) (fun i _ => n - (intOf i).toNat)
  case atStart => exact ⟨0, Nat.zero_le _, rfl, noneTo_zero _ _, Ext.refl _⟩
  case round =>
    obtain ⟨k, hk, rfl, hno, he⟩ := hrel
    have HN := Lib.hid hno
    clear hno
    by_cases hlt : k < n
    · obtain ⟨b', off, y, rfl, hb, hx, g0, g1, g2, g3⟩ := (h.ext he).at_ hlt
      have C := Lib.hid (Same1_any y x b wr (he.cell1 C1.out) (he.cell1 C2.out))
      cases ht : same x y
      · go_wp2_with (go_at_call 34; refine C.out.mono ?_; rintro e wa ⟨rfl, he1⟩; rw [ht])
        go_roundw
        case rel => exact ⟨k + 1, by omega, by go_num, noneTo_succ HN.out hx.out ht, he.trans he1⟩
        case measure => simp [intOf]; omega
      · go_wp2_with (go_at_call 34; refine C.out.mono ?_; rintro e wa ⟨rfl, he1⟩; rw [ht])
        go_ret
        exact ⟨ret_int (firstAt_hit HN.out hx.out ht).symm, he.trans he1⟩
    · obtain rfl : k = n := by omega
      go_wp2
      go_ret
      exact ⟨ret_int (firstAt_miss (by have := h.len; omega) HN.out).symm, he⟩
set_option maxRecDepth 100000 in
set_option maxHeartbeats 8000000 in
theorem SameGaugesI_any (A : Option Addr) (n c : Nat) (xs : List Comb) (w : World) (h : CombL w A n xs) :
    Calls Tryd.prog 12 #[.slice A n c] w (GrpPost (sameR xs) (CombsOk xs) w) := by
  cases ha : CombsOk xs
  · rw [show sameR xs = [] by simp [sameR, ha]]
    go_enter Tryd.func12, Tryd.ntmps12
    go_wp2_with (go_at_call 32; refine (areCombs_any A n c xs _ h).mono ?_; rintro e wa ⟨rfl, he1⟩; rw [ha])
    go_ret2
    exact ⟨none, 0, 0, [], rfl, rfl, rfl, (Grp.nil _ _).ls, he1⟩
  · rw [show sameR xs = grps xs xs.length by simp [sameR, ha]]
    have hsm := h.small
    go_enter Tryd.func12, Tryd.ntmps12
    go_wp2_with (go_at_call 32; refine (areCombs_any A n c xs _ h).mono ?_; rintro e wa ⟨rfl, he1⟩; rw [ha])
    go_loopw [4, 5, 14] (fun f o i wr => ∃ (k m fc oc : Nat) (F O : Option Addr) (zs : List Kd), k ≤ n ∧ i = .int .i64 k ∧ f = .slice F m fc ∧ o = .slice O m oc ∧ m ≤ k ∧ Hid (m = (firstsOf (xs.take k)).length) ∧ Hid (zs.map Prod.snd = grps xs k) ∧ Hid (zs.length = m) ∧
      wr.ownsRow w.heap.size 32 4 (.slice F m fc) m ((firstsOf (xs.take k)).flatMap Comb.cs) ∧ Grp wr w.heap.size (.slice O m oc) zs ∧ Ext w wr) (fun _ _ i _ => n - (intOf i).toNat)
    case atStart => exact ⟨0, 0, 0, 0, none, none, [], Nat.zero_le _, rfl, rfl, rfl, Nat.le_refl _, rfl, rfl, rfl, own_nil _ _ _ _, Grp.nil _ _, he1⟩
    case round =>
      obtain ⟨k, m, fc, oc, F, O, zs, hk, rfl, rfl, rfl, hmk, hml, hzs, hzl, hfr, hgr, he⟩ := hrel
      have FR := Lib.hid hfr
      have GR := Lib.hid hgr
      clear hfr hgr
      by_cases hlt : k < n
      · obtain ⟨b, off', x, rfl, hb, hx, g0, g1, g2, g3⟩ := (h.ext he).at_ hlt
        have OB := Lib.hid (own_block wr 32 x.cs)
        have OFF := Lib.hid (Off.own FR.out (Nat.le_refl _))
        have IX := Lib.hid (IndexSame_any F m fc (firstsOf (xs.take k)) x wr.heap.size (wr.alloc (.cells #[.int .i64 x.Id, .int .i64 x.Wide, .int .i64 x.High, .bool x.Line] 32)) ⟨hml.out.symm, by omega, Rd.own (((Ext.refl wr).alloc (.cells #[.int .i64 x.Id, .int .i64 x.Wide, .int .i64 x.High, .bool x.Line] 32)).own FR.out)⟩ (own_at OB.out (j := 1) rfl) (own_at OB.out (j := 2) rfl))
        have EX := Lib.hid he
        clear he
        rcases first_cases (same x) (firstsOf (xs.take k)) with ⟨hf, hn⟩ | ⟨j, y, hf, hy, hs⟩
        · rw [hf] at IX
          have HNew := Lib.hid (grps_new hx.out hn)
          clear hf hn hx
          go_wp2_with (first | (go_at_call 33; refine IX.out.mono ?_; rintro e wi ⟨rfl, hi⟩; have OBi := Lib.hid (hi.own OB.out); have p0 := own_at OBi.out (j := 0) rfl; have p1 := own_at OBi.out (j := 1) rfl; have p2 := own_at OBi.out (j := 2) rfl; have p3 := own_at OBi.out (j := 3) rfl; have zi : wr.heap.size < wi.heap.size := World.block_lt_of_cell? wi _ p0; have EI := Lib.hid (((Ext.refl wr).alloc (.cells #[.int .i64 x.Id, .int .i64 x.Wide, .int .i64 x.High, .bool x.Line] 32)).trans hi); clear hi g0 g1 g2 g3) | (at_builtin; refine app_comb rfl _ _ rfl w.heap.size m fc F _ x wi.heap.size wi.heap.size rfl rfl ((EI.out.alloc (.cells #[.int .i64 x.Id, .int .i64 x.Wide, .int .i64 x.High, .bool x.Line] 32)).own FR.out) (own_block wi 32 x.cs) (by omega) (Nat.le_trans EX.out.size (EI.out.alloc (.cells #[.int .i64 x.Id, .int .i64 x.Wide, .int .i64 x.High, .bool x.Line] 32)).size) ?_; intro F' fc' w2 hf2 gf2; have FR2 := Lib.hid hf2; have OB2 := Lib.hid ((((Ext.refl wi).alloc (.cells #[.int .i64 x.Id, .int .i64 x.Wide, .int .i64 x.High, .bool x.Line] 32)).own OBi.out).kept gf2 OFF.out.apart); have GR2 := Lib.hid ((GR.out.ext (EI.out.alloc (.cells #[.int .i64 x.Id, .int .i64 x.Wide, .int .i64 x.High, .bool x.Line] 32))).past ((EI.out.alloc (.cells #[.int .i64 x.Id, .int .i64 x.Wide, .int .i64 x.High, .bool x.Line] 32)).own FR.out) (fun e => combI e.symm) (fun e => combTS e.symm) gf2); have E2 := Lib.hid ((EX.out.trans (EI.out.alloc (.cells #[.int .i64 x.Id, .int .i64 x.Wide, .int .i64 x.High, .bool x.Line] 32))).grown gf2 (fun k hk => (FR.out.lt k hk).1)); clear hf2 gf2 p0 p1 p2 p3 zi) | (at_builtin; refine app_sl rfl _ _ rfl w.heap.size m oc w2.heap.size O (zs.map Prod.fst) none 0 0 rfl rfl (by have h9 := (((Ext.refl w2).alloc (.cells #[.slice none 0 0] 27)).own GR2.out.ls.row); rw [hzl.out] at h9; exact h9) (new_cell _ _ _ 0 _ rfl) (by omega) (Nat.le_trans E2.out.size (((Ext.refl w2).alloc (.cells #[.slice none 0 0] 27)).size)) ?_; intro O' oc' w3 hor hgo))
          have EA := Lib.hid ((Ext.refl w2).alloc (.cells #[.slice none 0 0] 27))
          have hor1 := GR2.out.ls.row
          rw [hzl.out] at hor1
          have HOR1 := Lib.hid (EA.out.own hor1)
          have GG := Lib.hid (show GSt w wr.heap.size x F' (m + 1) fc' (firstsOf (xs.take k) ++ [x]) O' oc' (zs ++ [(.slice none 0 0, [])]) w3 from
            ⟨(GR2.out.ext EA.out).pushNil hgo (by rw [hzl.out]; exact hor), by simp [hzl.out],
             by have h9 := (EA.out.own FR2.out).kept hgo (own_types (EA.out.own FR2.out) HOR1.out combTS); simpa [List.flatMap_append] using h9,
             (EA.out.own OB2.out).kept hgo (own_types (EA.out.own OB2.out) HOR1.out combTS),
             (E2.out.trans EA.out).grown hgo (fun k hk => (HOR1.out.lt k hk).1)⟩)
          have HSN := Lib.hid (show (zs ++ [((.slice none 0 0 : Value), ([] : List Int))]).map Prod.snd = grps xs k ++ [[]] by simp [hzs.out])
          clear hor hgo hor1 HOR1 EA GR2 FR2 OB2 E2
          obtain ⟨q, B, e, l, rfl, hq, hz, hcell, hele⟩ := GG.out.grp.ls.get (k := m) (by omega) GG.out.len
          have HCELL := Lib.hid hcell
          have HELE := Lib.hid hele
          have HBOX := Lib.hid (own_at GG.out.box (j := 0) (v := .int .i64 x.Id) rfl)
          have HZ := Lib.hid hz.out
          have HLN := Lib.hid (show l = [] by
            have h9 := snd_get HSN.out HZ.out
            have e9 : (grps xs k).length = m := by rw [← hzs.out, List.length_map, hzl.out]
            rw [List.getElem?_append_right (by omega), e9] at h9
            simp at h9; exact h9)
          have y1 : (m : Int) < ((m + 1 : Nat) : Int) := by omega
          have y2 : m < m + 1 := by omega
          have y3 : (m : Int) < (m : Int) + 1 := by omega
          have hl9 : l.length ≤ 100000000 := by rw [HLN.out]; simp
          clear hcell hele hz hq
          go_wp2
          refine wp_region_held_drew (S := fun _ => True) (by kernel_rfl) trivial (fun hHeld => ?_)
          have E0 := Lib.hid ((Ext.refl w3).drew)
          have E1 := Lib.hid (E0.out.alloc (.cells #[.int .i64 x.Id] 3))
          refine wpAnyH_take (i := 0) (v := ?_) rfl (by kernel_rfl) (by kernel_rfl) (by kernel_rfl) (fun _ _ _ h => h) (Or.inl ⟨by rfl, ?_⟩) trivial ?_; rotate_left 1; (focus (intro w hSw; go_simp; (try with_reducible rfl))); (try simp only [Act.put, List.setIfInBounds_toArray, List.set_cons_zero, List.set_cons_succ])
          refine wpAnyH_take (i := 1) (v := ?_) rfl (by kernel_rfl) (by kernel_rfl) (by kernel_rfl) (fun _ _ _ h => h) (Or.inl ⟨by rfl, ?_⟩) trivial ?_; rotate_left 1; (focus (intro w hSw; go_simp; (try with_reducible rfl))); (try simp only [Act.put, List.setIfInBounds_toArray, List.set_cons_zero, List.set_cons_succ])
          refine wpAnyH_take (i := 2) (v := ?_) rfl (by kernel_rfl) (by kernel_rfl) (by kernel_rfl) (fun _ _ _ h => h) (Or.inl ⟨by rfl, ?_⟩) trivial ?_; rotate_left 1; (focus (intro w hSw; go_simp; (try with_reducible rfl))); (try simp only [Act.put, List.setIfInBounds_toArray, List.set_cons_zero, List.set_cons_succ])
          refine wpAnyH_take (i := 3) (v := ?_) rfl (by kernel_rfl) (by kernel_rfl) (by kernel_rfl) (fun _ _ _ h => h) (Or.inl ⟨by rfl, ?_⟩) trivial ?_; rotate_left 1; (focus (intro w hSw; go_simp; (try with_reducible rfl))); (try simp only [Act.put, List.setIfInBounds_toArray, List.set_cons_zero, List.set_cons_succ])
          refine wpAnyH_take (i := 4) (v := ?_) rfl (by kernel_rfl) (by kernel_rfl) (by kernel_rfl) (fun _ _ _ h => h) (Or.inl ⟨by rfl, ?_⟩) trivial ?_; rotate_left 1; (focus (intro w hSw; go_simp; (try with_reducible rfl))); (try simp only [Act.put, List.setIfInBounds_toArray, List.set_cons_zero, List.set_cons_succ])
          refine wpAnyH_take (i := 6) (v := ?_) rfl (by kernel_rfl) (by kernel_rfl) (by kernel_rfl) (fun _ _ _ h => h) (Or.inl ⟨by rfl, ?_⟩) trivial ?_; rotate_left 1; (focus (intro w hSw; go_simp; (try with_reducible rfl))); (try simp only [Act.put, List.setIfInBounds_toArray, List.set_cons_zero, List.set_cons_succ])
          refine wpAnyH_ready (rs := [5, 7]) (by kernel_rfl) (by simp) ?_; refine AllReadyH.cons rfl (fun K hK => ?_) (AllReadyH.cons rfl (fun K hK => ?_) AllReadyH.nil)
          focus
            have cx := E0.out.cell1 HCELL.out
            have cz : q < w3.heap.size := by have h9 := World.block_lt_of_cell? w3.drew _ cx; (try simp only [World.size_alloc, World.size_drew] at h9); exact h9
            go_simp; (try simp only [Act.put, List.setIfInBounds_toArray, List.set_cons_zero, List.set_cons_succ]); (try go_wp2_with fail); refine hK.out _ _ trivial fun _ => ?_; clear hK K; (try simp only [Act.put, List.setIfInBounds_toArray, List.set_cons_zero, List.set_cons_succ])
            clear cx cz
            have cx := E0.out.cell1 HBOX.out
            have cz : wr.heap.size < w3.heap.size := by have h9 := World.block_lt_of_cell? w3.drew _ cx; (try simp only [World.size_alloc, World.size_drew] at h9); exact h9
            refine wpAnyH_ready (rs := [7]) (by kernel_rfl) (by simp) ?_; refine AllReadyH.cons rfl (fun K hK => ?_) AllReadyH.nil; go_simp; (try simp only [Act.put, List.setIfInBounds_toArray, List.set_cons_zero, List.set_cons_succ]); (try go_wp2_with fail); refine hK.out _ _ trivial fun _ => ?_; clear hK K; (try simp only [Act.put, List.setIfInBounds_toArray, List.set_cons_zero, List.set_cons_succ])
            clear cx cz
            refine wpAnyH_ready (rs := [8]) (by kernel_rfl) (by simp) ?_; refine AllReadyH.cons rfl (fun K hK => ?_) AllReadyH.nil; go_simp; (try simp only [Act.put, List.setIfInBounds_toArray, List.set_cons_zero, List.set_cons_succ]); (try go_wp2_with fail); refine hK.out _ _ trivial fun _ => ?_; clear hK K; (try simp only [Act.put, List.setIfInBounds_toArray, List.set_cons_zero, List.set_cons_succ])
            refine wpAnyH_ready (rs := [9]) (by kernel_rfl) (by simp) ?_; refine AllReadyH.cons rfl (fun K hK => ?_) AllReadyH.nil; refine step_int_at rfl (.tmp 37) (.tmp 40) rfl w.heap.size l.length e w3.heap.size B l x.Id rfl rfl (E1.out.own HELE.out) (new_cell9 w3.drew _ _ _ (by simp)) (by omega) (Nat.le_trans GG.out.ext.size E1.out.size) 41 rfl ?_; intro A9 c9 w9 op9 gp9 of9; (try simp only [Act.put, List.setIfInBounds_toArray, List.set_cons_zero, List.set_cons_succ]); refine hK.out _ _ trivial fun _ => ?_; clear hK K; (try simp only [Act.put, List.setIfInBounds_toArray, List.set_cons_zero, List.set_cons_succ])
            have NS := Lib.hid ((GG.out.step E1.out).grow HZ.out op9 rfl gp9 of9)
            have R1 := Lib.hid ((GG.out.step E1.out).row1 HZ.out gp9)
            clear op9 gp9 of9
            refine wpAnyH_take (i := 10) (v := ?_) rfl (by kernel_rfl) (by kernel_rfl) (by kernel_rfl) (fun _ _ _ h => h) (Or.inl ⟨by rfl, ?_⟩) trivial ?_; rotate_left 1; (focus (intro w hSw; go_simp; (try with_reducible rfl))); (try simp only [Act.put, List.setIfInBounds_toArray, List.set_cons_zero, List.set_cons_succ])
            have cx := own_cell (j := m) R1.out (by omega)
            obtain ⟨u9, cx⟩ := cx
            have cz : q < w9.heap.size := World.block_lt_of_cell? w9 _ cx
            have cf := R1.out.frozenAt m
            refine wpAnyH_ready (rs := [11]) (by kernel_rfl) (by simp) ?_; refine AllReadyH.cons rfl (fun K hK => ?_) AllReadyH.nil; go_simp; (try simp only [Act.put, List.setIfInBounds_toArray, List.set_cons_zero, List.set_cons_succ]); (try go_wp2_with fail); refine hK.out _ _ trivial fun _ => ?_; clear hK K; (try simp only [Act.put, List.setIfInBounds_toArray, List.set_cons_zero, List.set_cons_succ])
            clear cx cz cf R1
            refine wpAnyH_done (by kernel_rfl) ?_ _
          rotate_left 1
          focus
            have cx := E0.out.cell1 HBOX.out
            have cz : wr.heap.size < w3.heap.size := by have h9 := World.block_lt_of_cell? w3.drew _ cx; (try simp only [World.size_alloc, World.size_drew] at h9); exact h9
            go_simp; (try simp only [Act.put, List.setIfInBounds_toArray, List.set_cons_zero, List.set_cons_succ]); (try go_wp2_with fail); refine hK.out _ _ trivial fun _ => ?_; clear hK K; (try simp only [Act.put, List.setIfInBounds_toArray, List.set_cons_zero, List.set_cons_succ])
            clear cx cz
            refine wpAnyH_ready (rs := [5, 8]) (by kernel_rfl) (by simp) ?_; refine AllReadyH.cons rfl (fun K hK => ?_) (AllReadyH.cons rfl (fun K hK => ?_) AllReadyH.nil)
            focus
              have cx := E0.out.cell1 HCELL.out
              have cz : q < w3.heap.size := by have h9 := World.block_lt_of_cell? w3.drew _ cx; (try simp only [World.size_alloc, World.size_drew] at h9); exact h9
              go_simp; (try simp only [Act.put, List.setIfInBounds_toArray, List.set_cons_zero, List.set_cons_succ]); (try go_wp2_with fail); refine hK.out _ _ trivial fun _ => ?_; clear hK K; (try simp only [Act.put, List.setIfInBounds_toArray, List.set_cons_zero, List.set_cons_succ])
              clear cx cz
              refine wpAnyH_ready (rs := [8]) (by kernel_rfl) (by simp) ?_; refine AllReadyH.cons rfl (fun K hK => ?_) AllReadyH.nil; go_simp; (try simp only [Act.put, List.setIfInBounds_toArray, List.set_cons_zero, List.set_cons_succ]); (try go_wp2_with fail); refine hK.out _ _ trivial fun _ => ?_; clear hK K; (try simp only [Act.put, List.setIfInBounds_toArray, List.set_cons_zero, List.set_cons_succ])
              refine wpAnyH_ready (rs := [9]) (by kernel_rfl) (by simp) ?_; refine AllReadyH.cons rfl (fun K hK => ?_) AllReadyH.nil; refine step_int_at rfl (.tmp 37) (.tmp 40) rfl w.heap.size l.length e w3.heap.size B l x.Id rfl rfl (E1.out.own HELE.out) (new_cell9 w3.drew _ _ _ (by simp)) (by omega) (Nat.le_trans GG.out.ext.size E1.out.size) 41 rfl ?_; intro A9 c9 w9 op9 gp9 of9; (try simp only [Act.put, List.setIfInBounds_toArray, List.set_cons_zero, List.set_cons_succ]); refine hK.out _ _ trivial fun _ => ?_; clear hK K; (try simp only [Act.put, List.setIfInBounds_toArray, List.set_cons_zero, List.set_cons_succ])
              have NS := Lib.hid ((GG.out.step E1.out).grow HZ.out op9 rfl gp9 of9)
              have R1 := Lib.hid ((GG.out.step E1.out).row1 HZ.out gp9)
              clear op9 gp9 of9
              refine wpAnyH_take (i := 10) (v := ?_) rfl (by kernel_rfl) (by kernel_rfl) (by kernel_rfl) (fun _ _ _ h => h) (Or.inl ⟨by rfl, ?_⟩) trivial ?_; rotate_left 1; (focus (intro w hSw; go_simp; (try with_reducible rfl))); (try simp only [Act.put, List.setIfInBounds_toArray, List.set_cons_zero, List.set_cons_succ])
              have cx := own_cell (j := m) R1.out (by omega)
              obtain ⟨u9, cx⟩ := cx
              have cz : q < w9.heap.size := World.block_lt_of_cell? w9 _ cx
              have cf := R1.out.frozenAt m
              refine wpAnyH_ready (rs := [11]) (by kernel_rfl) (by simp) ?_; refine AllReadyH.cons rfl (fun K hK => ?_) AllReadyH.nil; go_simp; (try simp only [Act.put, List.setIfInBounds_toArray, List.set_cons_zero, List.set_cons_succ]); (try go_wp2_with fail); refine hK.out _ _ trivial fun _ => ?_; clear hK K; (try simp only [Act.put, List.setIfInBounds_toArray, List.set_cons_zero, List.set_cons_succ])
              clear cx cz cf R1
              refine wpAnyH_done (by kernel_rfl) ?_ _
            rotate_left 1
            focus
              go_simp; (try simp only [Act.put, List.setIfInBounds_toArray, List.set_cons_zero, List.set_cons_succ]); (try go_wp2_with fail); refine hK.out _ _ trivial fun _ => ?_; clear hK K; (try simp only [Act.put, List.setIfInBounds_toArray, List.set_cons_zero, List.set_cons_succ])
              have cx := E1.out.cell1 HCELL.out
              have cz : q < w3.heap.size + 1 := by have h9 := World.block_lt_of_cell? (w3.drew.alloc (.cells #[.int .i64 x.Id] 3)) _ cx; (try simp only [World.size_alloc, World.size_drew] at h9); exact h9
              have cv : ¬ q = w3.heap.size := by have h9 : q < w3.heap.size := World.block_lt_of_cell? w3 _ HCELL.out; omega
              have cy := HCELL.out
              have cu : q < w3.heap.size := World.block_lt_of_cell? w3 _ HCELL.out
              refine wpAnyH_ready (rs := [5]) (by kernel_rfl) (by simp) ?_; refine AllReadyH.cons rfl (fun K hK => ?_) AllReadyH.nil; go_simp; (try simp only [Act.put, List.setIfInBounds_toArray, List.set_cons_zero, List.set_cons_succ]); (try go_wp2_with fail); refine hK.out _ _ trivial fun _ => ?_; clear hK K; (try simp only [Act.put, List.setIfInBounds_toArray, List.set_cons_zero, List.set_cons_succ])
              clear cx cz cv cy cu
              refine wpAnyH_ready (rs := [9]) (by kernel_rfl) (by simp) ?_; refine AllReadyH.cons rfl (fun K hK => ?_) AllReadyH.nil; refine step_int_at rfl (.tmp 37) (.tmp 40) rfl w.heap.size l.length e w3.heap.size B l x.Id rfl rfl (E1.out.own HELE.out) (new_cell9 w3.drew _ _ _ (by simp)) (by omega) (Nat.le_trans GG.out.ext.size E1.out.size) 41 rfl ?_; intro A9 c9 w9 op9 gp9 of9; (try simp only [Act.put, List.setIfInBounds_toArray, List.set_cons_zero, List.set_cons_succ]); refine hK.out _ _ trivial fun _ => ?_; clear hK K; (try simp only [Act.put, List.setIfInBounds_toArray, List.set_cons_zero, List.set_cons_succ])
              have NS := Lib.hid ((GG.out.step E1.out).grow HZ.out op9 rfl gp9 of9)
              have R1 := Lib.hid ((GG.out.step E1.out).row1 HZ.out gp9)
              clear op9 gp9 of9
              refine wpAnyH_take (i := 10) (v := ?_) rfl (by kernel_rfl) (by kernel_rfl) (by kernel_rfl) (fun _ _ _ h => h) (Or.inl ⟨by rfl, ?_⟩) trivial ?_; rotate_left 1; (focus (intro w hSw; go_simp; (try with_reducible rfl))); (try simp only [Act.put, List.setIfInBounds_toArray, List.set_cons_zero, List.set_cons_succ])
              have cx := own_cell (j := m) R1.out (by omega)
              obtain ⟨u9, cx⟩ := cx
              have cz : q < w9.heap.size := World.block_lt_of_cell? w9 _ cx
              have cf := R1.out.frozenAt m
              refine wpAnyH_ready (rs := [11]) (by kernel_rfl) (by simp) ?_; refine AllReadyH.cons rfl (fun K hK => ?_) AllReadyH.nil; go_simp; (try simp only [Act.put, List.setIfInBounds_toArray, List.set_cons_zero, List.set_cons_succ]); (try go_wp2_with fail); refine hK.out _ _ trivial fun _ => ?_; clear hK K; (try simp only [Act.put, List.setIfInBounds_toArray, List.set_cons_zero, List.set_cons_succ])
              clear cx cz cf R1
              refine wpAnyH_done (by kernel_rfl) ?_ _
            rotate_left 1
          rotate_left 2
          all_goals
            (try simp only [List.getElem_toArray, List.getElem_cons_succ, List.getElem_cons_zero, List.setIfInBounds_toArray, List.set_cons_succ, List.set_cons_zero])
            have HZ9 := Lib.hid (show ((zs ++ [((.slice none 0 0 : Value), ([] : List Int))]).set m (.slice A9 (l.length + 1) c9, l ++ [x.Id])).map Prod.snd = grps xs (k + 1) by
              rw [List.map_set, HSN.out, HNew.out.2, HLN.out]
              have e9 : (grps xs k).length = m := by rw [← hzs.out, List.length_map, hzl.out]
              rw [List.set_append_right _ _ (by omega), e9]
              simp)
            go_wp2
            go_roundw
            case rel => exact ⟨k + 1, m + 1, fc', oc', F', _, _, by omega, by go_num, rfl, rfl, by omega, (show m + 1 = (firstsOf (xs.take (k + 1))).length from by rw [HNew.out.1, List.length_append, ← hml.out]; rfl), HZ9.out, by rw [List.length_set]; exact GG.out.len, by rw [HNew.out.1]; exact NS.out.2.1, NS.out.1, NS.out.2.2⟩
            case measure => simp [intOf]; omega
        · rw [hf] at IX
          have HOld := Lib.hid (grps_old hx.out hy hs)
          have hjm : j < m := by rw [hml.out]; exact (List.getElem?_eq_some_iff.1 hy).1
          have y0 : decide ((j : Int) < 0) = false := by simp
          clear hf hs hx hy
          go_wp2_with (go_at_call 33; refine IX.out.mono ?_; rintro e wi ⟨rfl, hi⟩; have OBi := Lib.hid (hi.own OB.out); have EI := Lib.hid (((Ext.refl wr).alloc (.cells #[.int .i64 x.Id, .int .i64 x.Wide, .int .i64 x.High, .bool x.Line] 32)).trans hi); clear hi g0 g1 g2 g3)
          have GG := Lib.hid (show GSt w wr.heap.size x F m fc (firstsOf (xs.take k)) O oc zs wi from ⟨GR.out.ext EI.out, hzl.out, EI.out.own FR.out, OBi.out, EX.out.trans EI.out⟩)
          obtain ⟨q, B, e, l, rfl, hq, hz, hcell, hele⟩ := GG.out.grp.ls.get (k := j) hjm GG.out.len
          have HCELL := Lib.hid hcell
          have HELE := Lib.hid hele
          have HBOX := Lib.hid (own_at GG.out.box (j := 0) (v := .int .i64 x.Id) rfl)
          have HZ := Lib.hid hz.out
          have hll := own_cap hele
          have hl9 : l.length ≤ 100000000 := by
            have h8 : l ∈ grps xs k := List.mem_of_getElem? (snd_get hzs.out HZ.out)
            unfold grps at h8
            obtain ⟨y9, _, rfl⟩ := List.mem_map.1 h8
            have h7 := ids_len (same y9) (xs.take k)
            rw [List.length_take] at h7
            omega
          have y1 : (j : Int) < (m : Int) := by omega
          clear hcell hele hz hq hll
          refine wp_region_held_drew (S := fun _ => True) (by kernel_rfl) trivial (fun hHeld => ?_)
          have E0 := Lib.hid ((Ext.refl wi).drew)
          have E1 := Lib.hid (E0.out.alloc (.cells #[.int .i64 x.Id] 3))
          refine wpAnyH_take (i := 0) (v := ?_) rfl (by kernel_rfl) (by kernel_rfl) (by kernel_rfl) (fun _ _ _ h => h) (Or.inl ⟨by rfl, ?_⟩) trivial ?_; rotate_left 1; (focus (intro w hSw; go_simp; (try with_reducible rfl))); (try simp only [Act.put, List.setIfInBounds_toArray, List.set_cons_zero, List.set_cons_succ])
          refine wpAnyH_take (i := 1) (v := ?_) rfl (by kernel_rfl) (by kernel_rfl) (by kernel_rfl) (fun _ _ _ h => h) (Or.inl ⟨by rfl, ?_⟩) trivial ?_; rotate_left 1; (focus (intro w hSw; go_simp; (try with_reducible rfl))); (try simp only [Act.put, List.setIfInBounds_toArray, List.set_cons_zero, List.set_cons_succ])
          refine wpAnyH_take (i := 2) (v := ?_) rfl (by kernel_rfl) (by kernel_rfl) (by kernel_rfl) (fun _ _ _ h => h) (Or.inl ⟨by rfl, ?_⟩) trivial ?_; rotate_left 1; (focus (intro w hSw; go_simp; (try with_reducible rfl))); (try simp only [Act.put, List.setIfInBounds_toArray, List.set_cons_zero, List.set_cons_succ])
          refine wpAnyH_take (i := 3) (v := ?_) rfl (by kernel_rfl) (by kernel_rfl) (by kernel_rfl) (fun _ _ _ h => h) (Or.inl ⟨by rfl, ?_⟩) trivial ?_; rotate_left 1; (focus (intro w hSw; go_simp; (try with_reducible rfl))); (try simp only [Act.put, List.setIfInBounds_toArray, List.set_cons_zero, List.set_cons_succ])
          refine wpAnyH_take (i := 4) (v := ?_) rfl (by kernel_rfl) (by kernel_rfl) (by kernel_rfl) (fun _ _ _ h => h) (Or.inl ⟨by rfl, ?_⟩) trivial ?_; rotate_left 1; (focus (intro w hSw; go_simp; (try with_reducible rfl))); (try simp only [Act.put, List.setIfInBounds_toArray, List.set_cons_zero, List.set_cons_succ])
          refine wpAnyH_take (i := 6) (v := ?_) rfl (by kernel_rfl) (by kernel_rfl) (by kernel_rfl) (fun _ _ _ h => h) (Or.inl ⟨by rfl, ?_⟩) trivial ?_; rotate_left 1; (focus (intro w hSw; go_simp; (try with_reducible rfl))); (try simp only [Act.put, List.setIfInBounds_toArray, List.set_cons_zero, List.set_cons_succ])
          refine wpAnyH_ready (rs := [5, 7]) (by kernel_rfl) (by simp) ?_; refine AllReadyH.cons rfl (fun K hK => ?_) (AllReadyH.cons rfl (fun K hK => ?_) AllReadyH.nil)
          focus
            have cx := E0.out.cell1 HCELL.out
            have cz : q < wi.heap.size := by have h9 := World.block_lt_of_cell? wi.drew _ cx; (try simp only [World.size_alloc, World.size_drew] at h9); exact h9
            go_simp; (try simp only [Act.put, List.setIfInBounds_toArray, List.set_cons_zero, List.set_cons_succ]); (try go_wp2_with fail); refine hK.out _ _ trivial fun _ => ?_; clear hK K; (try simp only [Act.put, List.setIfInBounds_toArray, List.set_cons_zero, List.set_cons_succ])
            clear cx cz
            have cx := E0.out.cell1 HBOX.out
            have cz : wr.heap.size < wi.heap.size := by have h9 := World.block_lt_of_cell? wi.drew _ cx; (try simp only [World.size_alloc, World.size_drew] at h9); exact h9
            refine wpAnyH_ready (rs := [7]) (by kernel_rfl) (by simp) ?_; refine AllReadyH.cons rfl (fun K hK => ?_) AllReadyH.nil; go_simp; (try simp only [Act.put, List.setIfInBounds_toArray, List.set_cons_zero, List.set_cons_succ]); (try go_wp2_with fail); refine hK.out _ _ trivial fun _ => ?_; clear hK K; (try simp only [Act.put, List.setIfInBounds_toArray, List.set_cons_zero, List.set_cons_succ])
            clear cx cz
            refine wpAnyH_ready (rs := [8]) (by kernel_rfl) (by simp) ?_; refine AllReadyH.cons rfl (fun K hK => ?_) AllReadyH.nil; go_simp; (try simp only [Act.put, List.setIfInBounds_toArray, List.set_cons_zero, List.set_cons_succ]); (try go_wp2_with fail); refine hK.out _ _ trivial fun _ => ?_; clear hK K; (try simp only [Act.put, List.setIfInBounds_toArray, List.set_cons_zero, List.set_cons_succ])
            refine wpAnyH_ready (rs := [9]) (by kernel_rfl) (by simp) ?_; refine AllReadyH.cons rfl (fun K hK => ?_) AllReadyH.nil; refine step_int_at rfl (.tmp 37) (.tmp 40) rfl w.heap.size l.length e wi.heap.size B l x.Id rfl rfl (E1.out.own HELE.out) (new_cell9 wi.drew _ _ _ (by simp)) (by omega) (Nat.le_trans GG.out.ext.size E1.out.size) 41 rfl ?_; intro A9 c9 w9 op9 gp9 of9; (try simp only [Act.put, List.setIfInBounds_toArray, List.set_cons_zero, List.set_cons_succ]); refine hK.out _ _ trivial fun _ => ?_; clear hK K; (try simp only [Act.put, List.setIfInBounds_toArray, List.set_cons_zero, List.set_cons_succ])
            have NS := Lib.hid ((GG.out.step E1.out).grow HZ.out op9 rfl gp9 of9)
            have R1 := Lib.hid ((GG.out.step E1.out).row1 HZ.out gp9)
            clear op9 gp9 of9
            refine wpAnyH_take (i := 10) (v := ?_) rfl (by kernel_rfl) (by kernel_rfl) (by kernel_rfl) (fun _ _ _ h => h) (Or.inl ⟨by rfl, ?_⟩) trivial ?_; rotate_left 1; (focus (intro w hSw; go_simp; (try with_reducible rfl))); (try simp only [Act.put, List.setIfInBounds_toArray, List.set_cons_zero, List.set_cons_succ])
            have cx := own_cell (j := j) R1.out (by omega)
            obtain ⟨u9, cx⟩ := cx
            have cz : q < w9.heap.size := World.block_lt_of_cell? w9 _ cx
            have cf := R1.out.frozenAt j
            refine wpAnyH_ready (rs := [11]) (by kernel_rfl) (by simp) ?_; refine AllReadyH.cons rfl (fun K hK => ?_) AllReadyH.nil; go_simp; (try simp only [Act.put, List.setIfInBounds_toArray, List.set_cons_zero, List.set_cons_succ]); (try go_wp2_with fail); refine hK.out _ _ trivial fun _ => ?_; clear hK K; (try simp only [Act.put, List.setIfInBounds_toArray, List.set_cons_zero, List.set_cons_succ])
            clear cx cz cf R1
            refine wpAnyH_done (by kernel_rfl) ?_ _
          rotate_left 1
          focus
            have cx := E0.out.cell1 HBOX.out
            have cz : wr.heap.size < wi.heap.size := by have h9 := World.block_lt_of_cell? wi.drew _ cx; (try simp only [World.size_alloc, World.size_drew] at h9); exact h9
            go_simp; (try simp only [Act.put, List.setIfInBounds_toArray, List.set_cons_zero, List.set_cons_succ]); (try go_wp2_with fail); refine hK.out _ _ trivial fun _ => ?_; clear hK K; (try simp only [Act.put, List.setIfInBounds_toArray, List.set_cons_zero, List.set_cons_succ])
            clear cx cz
            refine wpAnyH_ready (rs := [5, 8]) (by kernel_rfl) (by simp) ?_; refine AllReadyH.cons rfl (fun K hK => ?_) (AllReadyH.cons rfl (fun K hK => ?_) AllReadyH.nil)
            focus
              have cx := E0.out.cell1 HCELL.out
              have cz : q < wi.heap.size := by have h9 := World.block_lt_of_cell? wi.drew _ cx; (try simp only [World.size_alloc, World.size_drew] at h9); exact h9
              go_simp; (try simp only [Act.put, List.setIfInBounds_toArray, List.set_cons_zero, List.set_cons_succ]); (try go_wp2_with fail); refine hK.out _ _ trivial fun _ => ?_; clear hK K; (try simp only [Act.put, List.setIfInBounds_toArray, List.set_cons_zero, List.set_cons_succ])
              clear cx cz
              refine wpAnyH_ready (rs := [8]) (by kernel_rfl) (by simp) ?_; refine AllReadyH.cons rfl (fun K hK => ?_) AllReadyH.nil; go_simp; (try simp only [Act.put, List.setIfInBounds_toArray, List.set_cons_zero, List.set_cons_succ]); (try go_wp2_with fail); refine hK.out _ _ trivial fun _ => ?_; clear hK K; (try simp only [Act.put, List.setIfInBounds_toArray, List.set_cons_zero, List.set_cons_succ])
              refine wpAnyH_ready (rs := [9]) (by kernel_rfl) (by simp) ?_; refine AllReadyH.cons rfl (fun K hK => ?_) AllReadyH.nil; refine step_int_at rfl (.tmp 37) (.tmp 40) rfl w.heap.size l.length e wi.heap.size B l x.Id rfl rfl (E1.out.own HELE.out) (new_cell9 wi.drew _ _ _ (by simp)) (by omega) (Nat.le_trans GG.out.ext.size E1.out.size) 41 rfl ?_; intro A9 c9 w9 op9 gp9 of9; (try simp only [Act.put, List.setIfInBounds_toArray, List.set_cons_zero, List.set_cons_succ]); refine hK.out _ _ trivial fun _ => ?_; clear hK K; (try simp only [Act.put, List.setIfInBounds_toArray, List.set_cons_zero, List.set_cons_succ])
              have NS := Lib.hid ((GG.out.step E1.out).grow HZ.out op9 rfl gp9 of9)
              have R1 := Lib.hid ((GG.out.step E1.out).row1 HZ.out gp9)
              clear op9 gp9 of9
              refine wpAnyH_take (i := 10) (v := ?_) rfl (by kernel_rfl) (by kernel_rfl) (by kernel_rfl) (fun _ _ _ h => h) (Or.inl ⟨by rfl, ?_⟩) trivial ?_; rotate_left 1; (focus (intro w hSw; go_simp; (try with_reducible rfl))); (try simp only [Act.put, List.setIfInBounds_toArray, List.set_cons_zero, List.set_cons_succ])
              have cx := own_cell (j := j) R1.out (by omega)
              obtain ⟨u9, cx⟩ := cx
              have cz : q < w9.heap.size := World.block_lt_of_cell? w9 _ cx
              have cf := R1.out.frozenAt j
              refine wpAnyH_ready (rs := [11]) (by kernel_rfl) (by simp) ?_; refine AllReadyH.cons rfl (fun K hK => ?_) AllReadyH.nil; go_simp; (try simp only [Act.put, List.setIfInBounds_toArray, List.set_cons_zero, List.set_cons_succ]); (try go_wp2_with fail); refine hK.out _ _ trivial fun _ => ?_; clear hK K; (try simp only [Act.put, List.setIfInBounds_toArray, List.set_cons_zero, List.set_cons_succ])
              clear cx cz cf R1
              refine wpAnyH_done (by kernel_rfl) ?_ _
            rotate_left 1
            focus
              go_simp; (try simp only [Act.put, List.setIfInBounds_toArray, List.set_cons_zero, List.set_cons_succ]); (try go_wp2_with fail); refine hK.out _ _ trivial fun _ => ?_; clear hK K; (try simp only [Act.put, List.setIfInBounds_toArray, List.set_cons_zero, List.set_cons_succ])
              have cx := E1.out.cell1 HCELL.out
              have cz : q < wi.heap.size + 1 := by have h9 := World.block_lt_of_cell? (wi.drew.alloc (.cells #[.int .i64 x.Id] 3)) _ cx; (try simp only [World.size_alloc, World.size_drew] at h9); exact h9
              have cv : ¬ q = wi.heap.size := by have h9 : q < wi.heap.size := World.block_lt_of_cell? wi _ HCELL.out; omega
              have cy := HCELL.out
              have cu : q < wi.heap.size := World.block_lt_of_cell? wi _ HCELL.out
              refine wpAnyH_ready (rs := [5]) (by kernel_rfl) (by simp) ?_; refine AllReadyH.cons rfl (fun K hK => ?_) AllReadyH.nil; go_simp; (try simp only [Act.put, List.setIfInBounds_toArray, List.set_cons_zero, List.set_cons_succ]); (try go_wp2_with fail); refine hK.out _ _ trivial fun _ => ?_; clear hK K; (try simp only [Act.put, List.setIfInBounds_toArray, List.set_cons_zero, List.set_cons_succ])
              clear cx cz cv cy cu
              refine wpAnyH_ready (rs := [9]) (by kernel_rfl) (by simp) ?_; refine AllReadyH.cons rfl (fun K hK => ?_) AllReadyH.nil; refine step_int_at rfl (.tmp 37) (.tmp 40) rfl w.heap.size l.length e wi.heap.size B l x.Id rfl rfl (E1.out.own HELE.out) (new_cell9 wi.drew _ _ _ (by simp)) (by omega) (Nat.le_trans GG.out.ext.size E1.out.size) 41 rfl ?_; intro A9 c9 w9 op9 gp9 of9; (try simp only [Act.put, List.setIfInBounds_toArray, List.set_cons_zero, List.set_cons_succ]); refine hK.out _ _ trivial fun _ => ?_; clear hK K; (try simp only [Act.put, List.setIfInBounds_toArray, List.set_cons_zero, List.set_cons_succ])
              have NS := Lib.hid ((GG.out.step E1.out).grow HZ.out op9 rfl gp9 of9)
              have R1 := Lib.hid ((GG.out.step E1.out).row1 HZ.out gp9)
              clear op9 gp9 of9
              refine wpAnyH_take (i := 10) (v := ?_) rfl (by kernel_rfl) (by kernel_rfl) (by kernel_rfl) (fun _ _ _ h => h) (Or.inl ⟨by rfl, ?_⟩) trivial ?_; rotate_left 1; (focus (intro w hSw; go_simp; (try with_reducible rfl))); (try simp only [Act.put, List.setIfInBounds_toArray, List.set_cons_zero, List.set_cons_succ])
              have cx := own_cell (j := j) R1.out (by omega)
              obtain ⟨u9, cx⟩ := cx
              have cz : q < w9.heap.size := World.block_lt_of_cell? w9 _ cx
              have cf := R1.out.frozenAt j
              refine wpAnyH_ready (rs := [11]) (by kernel_rfl) (by simp) ?_; refine AllReadyH.cons rfl (fun K hK => ?_) AllReadyH.nil; go_simp; (try simp only [Act.put, List.setIfInBounds_toArray, List.set_cons_zero, List.set_cons_succ]); (try go_wp2_with fail); refine hK.out _ _ trivial fun _ => ?_; clear hK K; (try simp only [Act.put, List.setIfInBounds_toArray, List.set_cons_zero, List.set_cons_succ])
              clear cx cz cf R1
              refine wpAnyH_done (by kernel_rfl) ?_ _
            rotate_left 1
          rotate_left 2
          all_goals
            (try simp only [List.getElem_toArray, List.getElem_cons_succ, List.getElem_cons_zero, List.setIfInBounds_toArray, List.set_cons_succ, List.set_cons_zero])
            have HZ9 := Lib.hid (show (zs.set j (.slice A9 (l.length + 1) c9, l ++ [x.Id])).map Prod.snd = grps xs (k + 1) by
              obtain ⟨_, g9, hg9, e9⟩ := HOld.out
              have h9 := snd_get hzs.out HZ.out
              rw [hg9] at h9
              injection h9 with h9
              dsimp only at h9
              rw [List.map_set, hzs.out, e9, h9])
            go_wp2
            go_roundw
            case rel => exact ⟨k + 1, m, fc, oc, F, _, _, by omega, by go_num, rfl, rfl, by omega, by rw [HOld.out.1]; exact hml.out, HZ9.out, by rw [List.length_set]; exact GG.out.len, by rw [HOld.out.1]; exact NS.out.2.1, NS.out.1, NS.out.2.2⟩
            case measure => simp [intOf]; omega
      · obtain rfl : k = n := by omega
        have hn := Lib.hid (show zs.map Prod.snd = grps xs xs.length by rw [hzs.out, h.len])
        go_wp2
        go_ret2
        exact ⟨O, m, oc, zs, rfl, hn.out, hzl.out, GR.out.ls, he⟩
end Go.Proofs.YtoafaejhabjlnaaDoor
