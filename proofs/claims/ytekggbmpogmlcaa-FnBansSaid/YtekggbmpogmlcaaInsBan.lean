/- slices.Insert of one Ban (made by wip/ins.py). -/
import Derived.Test.YtekggbmpogmlcaaBanD
import Derived.Deep.RegionLaw
import Derived.Lib.SliceRun
import Derived.Lib.Overlaps
import Derived.Lib.AppendZerosOnto
import Derived.Laws.Externs
import Derived.Laws.IdiomCopy
namespace Go.Proofs.Ytekggbmpogmlcaa
open Go.RowKit
set_option linter.unusedVariables false
set_option linter.unusedSimpArgs false
attribute [local go_sem] ExtOf.cell

theorem copyN {P : Program} (w : World) (dT sT ty elem : TypeId) (Z b o dLen dCap : Nat) (a : Addr) (sLen sCap : Nat) (cs : List Value) (hZ : 0 < Z)
    (hu : P.underlying dT = some (.slice elem)) (hs : (P.info? elem).map (·.size) = some Z) (n : Nat) (hm : Nat.min sLen dLen = n) (hn : cs.length = n * Z)
    (hsrc : ∀ j v, cs[j]? = some v → w.cell? (a.add j) = some v) (hc : ∀ j, j < cs.length → (w.cell? ⟨b, o + j, none⟩).isSome = true) (hf : ∀ j, j < cs.length → w.frozen? ⟨b, o + j, none⟩ = false) (h1 : ∀ v ∈ cs, v.oneCell' = true) :
    (Builtin.copy_ #[dT, sT] ty #[.slice (some ⟨b, o, none⟩) dLen dCap, .slice (some a) sLen sCap]).run P w = .ok (goInt n) (w.setCells b o cs) := by
  have hl := run_loadCells_list (P := P) w a cs hsrc
  have hst := run_storeCells_cells (P := P) b o cs 0 w (by simpa using hc) (by simpa using hf) h1
  cases hq : P.info? elem with
  | none => simp [hq] at hs
  | some i =>
    have hi : i.size = Z := by simpa [hq] using hs
    rw [hn] at hl
    simp [Builtin.copy_, run_underlying hu, Builtin.lenOf, Builtin.firstCells, sizeOf, typeInfo, hq, hi, hm, hl, hst]
theorem wp_copyN (w : World) {P : Program} {o : Oper} {a : Act} {K : Act → World → Prop} {Q : Exit → Act → World → Prop} (d s : Operand) (t t' : TypeId)
    (ho : o.op = .call { callee := .builtin .copy, args := #[d, s], argTypes := #[t, t'] }) (v u : Value) (hd : a.eval d = v) (hs : a.eval s = u) {v' : Value} {w' : World}
    (hr : (Builtin.copy_ #[t, t'] o.type #[v, u]).run P w = .ok v' w') (h : K (a.put o.dst v') w') : o.wp P a w K Q := by
  unfold Oper.wp execOp
  simp only [ho, resolve, invoke, builtin, Sem.run_bind, Sem.run_pure, Result.andThen_ok, List.map_toArray, List.map_cons, List.map_nil, hd, hs, hr]
  exact h
theorem wpList_copyN (w : World) {P : Program} {ops : Array Oper} {rest : List Oper} {o : Oper} {a : Act} {Q : Exit → Act → World → Prop} (hgd : o.guard = none) (d s : Operand) (t t' : TypeId)
    (ho : o.op = .call { callee := .builtin .copy, args := #[d, s], argTypes := #[t, t'] }) (v u : Value) (hd : a.eval d = v) (hs : a.eval s = u) {v' : Value} {w' : World}
    (hr : (Builtin.copy_ #[t, t'] o.type #[v, u]).run P w = .ok v' w') (h : wpList P ops Q rest (a.put o.dst v') w') : wpList P ops Q (o :: rest) a w :=
  wpList_plain hgd fun _ hK => wp_copyN w d s t t' ho v u hd hs hr (hK _ _ h)
theorem step_copyN {P : Program} {ops : Array Oper} {o : Oper} {a : Act} {w : World} {K : Act → World → Prop} {Q : Exit → Act → World → Prop} {E : Prop}
    (hg : o.guard = none) (d x : Operand) (dT sT : TypeId) (hop : o.op = Op.call { callee := Callee.builtin Builtin.copy, args := #[d, x], argTypes := #[dT, sT] })
    (v u : Value) (hd : a.eval d = v) (hx : a.eval x = u) {v' : Value} {w' : World} (hr : (Builtin.copy_ #[dT, sT] o.type #[v, u]).run P w = .ok v' w') (hK : K (a.put o.dst v') w') :
    if Region.wanted o (yielded ops a.tmps) = true then Oper.wp P o a w K Q else E := by
  have hw : Region.wanted o (yielded ops a.tmps) = true := by simp [Region.wanted, hg]
  rw [if_pos hw]
  exact wp_copyN w d x dT sT hop v u hd hx hr hK
theorem wpList_appN {P : Program} (w : World) {ops : Array Oper} {rest : List Oper} {o : Oper} {a : Act} {Q : Exit → Act → World → Prop} (hgd : o.guard = none) (s x : Operand) (t tn : TypeId)
    (ho : o.op = .call { callee := .builtin .append, args := #[s, x], argTypes := #[t, tn] }) (v u : Value) (hs : a.eval s = v) (hx : a.eval x = u) {v' : Value} {w' : World}
    (hr : (Builtin.append_ #[t, tn] o.type #[v, u]).run P w = .ok v' w') (h : wpList P ops Q rest (a.put o.dst v') w') : wpList P ops Q (o :: rest) a w := by
  refine wpList_plain hgd fun K hK => ?_
  unfold Oper.wp execOp
  simp only [ho, resolve, invoke, builtin, Sem.run_bind, Sem.run_pure, Result.andThen_ok, List.map_toArray, List.map_cons, List.map_nil, hs, hx, hr]
  exact hK _ _ h
theorem own_form2 {w : World} {base T size g n c : Nat} {cs : List Value} (h : w.ownsRow base T size (.slice (some ⟨g, 0, none⟩) n c) n cs) : base ≤ g ∧ n ≤ c ∧ c ≤ maxLen ∧ ∃ cur : Array Value, w.heap[g]? = some (.cells cur T (0, 0)) ∧ cur.size = c * size ∧ cur.toList.take (n * size) = cs := by
  rcases h.2 with ⟨h1, _⟩ | ⟨g', cap, cur, h1, h2, h3, h4, h5, h6, h7⟩
  · cases h1
  · injection h1 with e1 _ e3
    injection e1 with e1; injection e1 with e1
    subst e1; subst e3
    exact ⟨h2, h4, h5, cur, h3, h6, h7⟩
/-- The row with its spare elements. -/
theorem own_wide {w : World} {base T size g n c : Nat} {cs : List Value} (h : w.ownsRow base T size (.slice (some ⟨g, 0, none⟩) n c) n cs) {m : Nat} (hm : m ≤ c) (hnm : n ≤ m) : ∃ sp : List Value, w.ownsRow base T size (.slice (some ⟨g, 0, none⟩) m c) m (cs ++ sp) := by
  obtain ⟨h1, h2, h3, cur, h4, h5, h6⟩ := own_form2 h
  refine ⟨(cur.toList.take (m * size)).drop (n * size), ?_⟩
  have e : cs ++ (cur.toList.take (m * size)).drop (n * size) = cur.toList.take (m * size) := by
    rw [← h6]
    have : cur.toList.take (n * size) = (cur.toList.take (m * size)).take (n * size) := by rw [List.take_take, Nat.min_eq_left (Nat.mul_le_mul_right _ hnm)]
    rw [this, List.take_append_drop]
  rw [e]
  exact ⟨by rw [List.length_take, Array.length_toList, h5, Nat.min_eq_left (Nat.mul_le_mul_right _ hm)], .inr ⟨g, c, cur, rfl, h1, h4, hm, h3, h5, rfl⟩⟩
theorem insL_Ban (xs : List Ban) (i : Nat) (x : Ban) (sp : List Value) (hi : i ≤ xs.length) (hsp : sp.length = 4) :
    setL (setL (xs.flatMap Ban.cs ++ sp) ((i + 1) * 4) ((xs.drop i).flatMap Ban.cs)) (i * 4) x.cs = (xs.take i ++ x :: xs.drop i).flatMap Ban.cs := by
  have flen : ∀ ys : List Ban, (ys.flatMap Ban.cs).length = ys.length * 4 := flat_length Ban.cs 4 Ban.len
  have e1 : xs.flatMap Ban.cs = (xs.take i).flatMap Ban.cs ++ (xs.drop i).flatMap Ban.cs := by rw [← List.flatMap_append, List.take_append_drop]
  have l1 : ((xs.take i).flatMap Ban.cs).length = i * 4 := by rw [flen, List.length_take, Nat.min_eq_left hi]
  have l2 : ((xs.drop i).flatMap Ban.cs).length = (xs.length - i) * 4 := by rw [flen, List.length_drop]
  generalize hD : (xs.drop i).flatMap Ban.cs = D at *
  generalize hP : (xs.take i).flatMap Ban.cs = Pr at *
  have lx := Ban.len x
  -- the tail is moved
  have h1 := setL_mid D (Pr ++ (D ++ sp).take 4) ((D ++ sp).drop 4) [] (by rw [List.length_drop, List.length_append, hsp]; omega)
  rw [List.append_nil, List.append_nil, List.append_assoc, List.take_append_drop, List.length_append, l1, List.length_take, List.length_append, hsp, Nat.min_eq_left (by omega)] at h1
  have h2 := setL_mid x.cs Pr ((D ++ sp).take 4) D (by rw [List.length_take, List.length_append, hsp, lx]; omega)
  rw [l1] at h2
  rw [e1, List.append_assoc, show (i + 1) * 4 = i * 4 + 4 by omega, h1, h2, List.flatMap_append, List.flatMap_cons, hP, hD, List.append_assoc]
set_option maxRecDepth 100000 in
set_option maxHeartbeats 2000000 in
theorem InsertBan_end (A : Option Addr) (n c vb base bv : Nat) (xs : List Ban) (x : Ban) (w : World) (hn : n ≤ 1048576) (hl : xs.length = n) (ho : w.ownsRow base 42 4 (.slice A n c) n (xs.flatMap Ban.cs)) (hb : base ≤ w.heap.size) (hv : w.ownsRow bv 42 4 (.slice (some ⟨vb, 0, none⟩) 1 1) 1 x.cs) :
    Calls Try.prog 36 #[.slice A n c, .int .i64 n, .slice (some ⟨vb, 0, none⟩) 1 1] w fun e w' => ∃ A' c', e = .returned (.slice A' (n + 1) c') ∧ w'.ownsRow base 42 4 (.slice A' (n + 1) c') (n + 1) ((xs.take n ++ x :: xs.drop n).flatMap Ban.cs) ∧ w.grownBy w' (Value.ownBlock (.slice A n c)) := by
  obtain ⟨i0, hi0, hz0, hz1, hz2⟩ := info_parts infoBan
  have hnc : n ≤ c := by
    rcases ho.2 with ⟨h1, h2⟩ | ⟨g, cap, cur, h1, _, _, h4, _⟩
    · omega
    · injection h1 with _ _ e3; omega
  have HR := Lib.hid (show xs.flatMap Ban.cs ++ x.cs = (xs.take n ++ x :: xs.drop n).flatMap Ban.cs by
    rw [List.take_of_length_le (Nat.le_of_eq hl), List.drop_of_length_le (Nat.le_of_eq hl), List.flatMap_append]; simp)
  have HO := Lib.hid ho
  have HC := Lib.hid (show ∀ j u, x.cs[j]? = some u → w.cell? ((⟨vb, 0, none⟩ : Addr).add j) = some u from fun j u hj => by
    rw [Addr.add_mid, Nat.zero_add]; exact own_at hv hj)
  have H1 := Lib.hid (show ∀ u ∈ x.cs, u.oneCell' = true from fun u hu => by
    simp only [Ban.cs, List.mem_cons, List.not_mem_nil, or_false] at hu
    rcases hu with rfl | rfl | rfl | rfl <;> rfl)
  have hA : A = none ∧ n = 0 ∧ c = 0 ∨ ∃ a, A = some a := by
    cases A with
    | none =>
      rcases ho.2 with ⟨h1, h2⟩ | ⟨g, cap, cur, h1, _⟩
      · injection h1 with _ _ e3; exact .inl ⟨rfl, h2, e3⟩
      · cases h1
    | some a => exact .inr ⟨a, rfl⟩
  clear ho hv hl
  rcases hA with ⟨rfl, rfl, rfl⟩ | ⟨a, rfl⟩
  rotate_left
  by_cases hcn : c = n
  all_goals
   go_enter Try.func36, Try.ntmps36
   go_wp2_with (at_builtin; refine wpList_append_own _ rfl (.tmp 23) (.tmp 24) 25 rfl base 42 i0 (.agg #[.int .i64 0, .int .i64 0, .int .i64 0, .int .i64 0]) 4 32 Try.underlying25 hi0 hz0 hz1 hz2 rfl (by decide) _ _ _ rfl HO.out ⟨vb, 0, none⟩ 1 1 x.cs rfl (Ban.len x) HC.out H1.out (by unfold maxLen; omega) (by omega) hb ?_; intro v' w1 hown hgrow hnil)
   go_ret
   obtain ⟨A', c', rfl⟩ := own_slice hown
   rw [HR.out] at hown
   refine ⟨A', c', by simp, ?_, hgrow⟩
   simpa using hown
set_option maxRecDepth 100000 in
set_option maxHeartbeats 2000000 in
theorem InsertBan_shift (b n c i vb base bv : Nat) (xs : List Ban) (x : Ban) (w : World) (hi : i < n) (hroom : n + 1 ≤ c) (hn : n ≤ 1048576) (hl : xs.length = n) (ho : w.ownsRow base 42 4 (.slice (some ⟨b, 0, none⟩) n c) n (xs.flatMap Ban.cs)) (hv : w.ownsRow bv 42 4 (.slice (some ⟨vb, 0, none⟩) 1 1) 1 x.cs) (hne : vb ≠ b) :
    Calls Try.prog 36 #[.slice (some ⟨b, 0, none⟩) n c, .int .i64 i, .slice (some ⟨vb, 0, none⟩) 1 1] w fun e w' => e = .returned (.slice (some ⟨b, 0, none⟩) (n + 1) c) ∧ w'.ownsRow base 42 4 (.slice (some ⟨b, 0, none⟩) (n + 1) c) (n + 1) ((xs.take i ++ x :: xs.drop i).flatMap Ban.cs) ∧ w.grownBy w' (some b) := by
  obtain ⟨_, _, hcm, cur, hcur, hcs, _⟩ := own_form2 ho
  obtain ⟨_, _, _, cuv, hcuv, hcsv, _⟩ := own_form2 hv
  unfold maxLen at hcm
  have flen : ∀ ys : List Ban, (ys.flatMap Ban.cs).length = ys.length * 4 := flat_length Ban.cs 4 Ban.len
  have fone : ∀ ys : List Ban, ∀ u ∈ ys.flatMap Ban.cs, u.oneCell' = true := fun ys u hu => by
    obtain ⟨y, _, hy⟩ := List.mem_flatMap.1 hu
    simp only [Ban.cs, List.mem_cons, List.not_mem_nil, or_false] at hy
    rcases hy with rfl | rfl | rfl | rfl <;> rfl
  have hone : ∀ u ∈ x.cs, u.oneCell' = true := fun u hu => fone [x] u (by simpa using hu)
  obtain ⟨sp, hwide⟩ := own_wide ho hroom (Nat.le_succ n)
  have hspl : sp.length = 4 := by
    have h1 := hwide.1
    rw [List.length_append, flen, hl] at h1; omega
  have hdl : ((xs.drop i).flatMap Ban.cs).length = (n - i) * 4 := by rw [flen, List.length_drop, hl]
  have hsrc : ∀ j u, ((xs.drop i).flatMap Ban.cs)[j]? = some u → w.cell? ⟨b, i * 4 + j, none⟩ = some u := fun j u hj => by
    refine own_at ho ?_
    have e1 : xs.flatMap Ban.cs = (xs.take i).flatMap Ban.cs ++ (xs.drop i).flatMap Ban.cs := by rw [← List.flatMap_append, List.take_append_drop]
    rw [e1, List.getElem?_append_right (by rw [flen, List.length_take]; omega), flen, List.length_take, Nat.min_eq_left (by omega), Nat.add_sub_cancel_left]
    exact hj
  have hcell : ∀ k, k < (n + 1) * 4 → (w.drew.cell? ⟨b, k, none⟩).isSome = true := fun k hk => by
    obtain ⟨u, hu⟩ := own_cell (j := k) hwide hk
    rw [(Ext.refl w).drew.cell1 hu]; rfl
  have hov : ∀ lb cb, (callFunc 53 #[.slice (some ⟨vb, 0, none⟩) 1 1, .slice (some ⟨b, (i + 1) * 4, none⟩) lb cb]).run Try.prog w = .ok (.value (.bool false)) w := fun lb cb => by
    rw [run_callFunc_extern Try.func53 (by kernel_rfl) (by kernel_rfl) (by kernel_rfl) (e := Extern.SlicesOverlaps.overlaps #[25, 25] #[4]) (by kernel_rfl),
      Lib.run_overlaps_apart w 25 4 42 Try.underlying25 4 Try.sizeOf42 ⟨vb, 0, none⟩ ⟨b, (i + 1) * 4, none⟩ 1 1 lb cb hne 42 42 (1 * 4) (c * 4) (by simp [World.shape?, hcuv, hcsv]) (by simp [World.shape?, hcur, hcs]) (by omega) (hv.frozenAt _) (hv.frozenAt _)]
    rfl
  have hdw := own_setCells ((xs.drop i).flatMap Ban.cs) ((i + 1) * 4) w.drew _ ((Ext.refl w).drew.own hwide)
  have hcp1 : ∀ ty dc sc, (Builtin.copy_ #[25, 25] ty #[.slice (some ⟨b, (i + 1) * 4, none⟩) (n - i) dc, .slice (some ⟨b, i * 4, none⟩) (n + 1 - i) sc]).run Try.prog w.drew = .ok (goInt (n - i : Nat)) (w.drew.setCells b ((i + 1) * 4) ((xs.drop i).flatMap Ban.cs)) := fun ty dc sc =>
    copyN w.drew _ _ ty 42 4 b ((i + 1) * 4) (n - i) dc ⟨b, i * 4, none⟩ (n + 1 - i) sc _ (by omega) Try.underlying25 sizeBan (n - i) (by simp only [Nat.min_def]; split <;> omega) hdl
      (fun j v hj => by rw [Addr.add_mid]; exact (Ext.refl w).drew.cell1 (hsrc j v hj)) (fun j hj => hcell _ (by rw [hdl] at hj; omega)) (fun j hj => hwide.frozenAt _) (fone _)
  obtain ⟨W1, hW1⟩ : ∃ W1, W1 = w.drew.setCells b ((i + 1) * 4) ((xs.drop i).flatMap Ban.cs) := ⟨_, rfl⟩
  rw [← hW1] at hcp1 hdw
  have hv1 := (hv.kept ((Ext.refl w).drew.grownNone) (by cases hvv : (Value.slice (some ⟨vb, 0, none⟩) 1 1).ownBlock <;> simp)).kept hdw.2 (Off.ne (o := 0) hne).row
  have hcp2 : ∀ ty dc, (Builtin.copy_ #[25, 25] ty #[.slice (some ⟨b, i * 4, none⟩) (n + 1 - i) dc, .slice (some ⟨vb, 0, none⟩) 1 1]).run Try.prog W1 = .ok (goInt (1 : Nat)) (W1.setCells b (i * 4) x.cs) := fun ty dc =>
    copyN W1 _ _ ty 42 4 b (i * 4) (n + 1 - i) dc ⟨vb, 0, none⟩ 1 1 x.cs (by omega) Try.underlying25 sizeBan 1 (by simp only [Nat.min_def]; split <;> omega) (by rw [Ban.len])
      (fun j v hj => by rw [Addr.add_mid, Nat.zero_add]; exact own_at hv1 hj) (fun j hj => by rw [Ban.len] at hj; obtain ⟨u, hu⟩ := own_cell (j := i * 4 + j) hdw.1 (by omega); rw [hu]; rfl) (fun j hj => hdw.1.frozenAt _) hone
  have hfin := own_setCells x.cs (i * 4) W1 _ hdw.1
  rw [insL_Ban xs i x sp (by omega) hspl] at hfin
  have HF := Lib.hid hfin
  have HG := Lib.hid (show w.grownBy (W1.setCells b (i * 4) x.cs) (some b) from ((show w.grownBy w.drew (some b) from ⟨rfl, rfl, rfl, Nat.le_refl _, fun _ _ _ => rfl⟩).trans hdw.2).trans hfin.2)
  have hz2 : ¬ ((i : Int) = (n : Int)) := by omega
  have hz3 : ¬ ((c : Int) < (n : Int) + 1) := by omega
  have hw1 : IntKind.i64.wrap ((i : Int) + 1) = (i : Int) + 1 := by rw [IntKind.wrap_i64]; omega
  have hw2 : IntKind.i64.wrap ((n : Int) + 1) = (n : Int) + 1 := by rw [IntKind.wrap_i64]; omega
  have hb1 : (0 : Int) ≤ (i : Int) + 1 := by omega
  have hin : i ≤ n := by omega
  have htn : ((i : Int) + 1).toNat = i + 1 := by omega
  have htn2 : ((n : Int) + 1).toNat = n + 1 := by omega
  have hb2 : ¬ (c = i + 1) := by omega
  have hb3 : (i : Int) ≤ (n : Int) + 1 := by omega
  have hb4 : ¬ (c = i) := by omega
  have hb5 : (i : Int) + 1 ≤ (n : Int) + 1 := by omega
  have hb6 : (n : Int) + 1 ≤ (c : Int) := by omega
  have hb7 : (0 : Int) ≤ (n : Int) + 1 := by omega
  have HW1 := Lib.hid hW1
  clear hW1 hv1 hdw hfin hcell hsrc hwide hcur hcs hcuv hcsv ho hv fone flen hone hdl hspl
  go_enter Try.func36, Try.ntmps36
  go_wp2_with (simp only [hov])
  go_region_law (refine step_copyN rfl _ _ 25 25 rfl _ _ (by simp [Act.eval, Act.put]) (by simp [Act.eval, Act.put]) (hcp1 _ _ _) ?_)
  go_wp2_with (at_builtin; refine wpList_copyN _ rfl _ _ 25 25 rfl _ _ rfl rfl (hcp2 _ _) ?_)
  go_ret
  exact ⟨rfl, HF.out.1, HG.out⟩
theorem growL_Ban (xs : List Ban) (i : Nat) (x : Ban) (Pr mid : List Value) (hi : i ≤ xs.length) (hP : Pr = (xs.take i).flatMap Ban.cs) (hm : mid.length = (xs.length + 1 - i) * 4) :
    setL (setL (Pr ++ mid) (i * 4) x.cs) ((i + 1) * 4) ((xs.drop i).flatMap Ban.cs) = (xs.take i ++ x :: xs.drop i).flatMap Ban.cs := by
  have flen : ∀ ys : List Ban, (ys.flatMap Ban.cs).length = ys.length * 4 := flat_length Ban.cs 4 Ban.len
  have l1 : Pr.length = i * 4 := by rw [hP, flen, List.length_take, Nat.min_eq_left hi]
  have l2 : ((xs.drop i).flatMap Ban.cs).length = (xs.length - i) * 4 := by rw [flen, List.length_drop]
  have lx := Ban.len x
  generalize hD : (xs.drop i).flatMap Ban.cs = D at *
  have h1 := setL_mid x.cs Pr (mid.take 4) (mid.drop 4) (by rw [List.length_take, hm, lx]; omega)
  rw [l1, List.append_assoc, List.take_append_drop] at h1
  have h2 := setL_mid D (Pr ++ x.cs) (mid.drop 4) [] (by rw [List.length_drop, hm, l2]; omega)
  rw [List.append_nil, List.append_nil, List.length_append, l1, lx] at h2
  rw [h1, show (i + 1) * 4 = i * 4 + 4 by omega, h2, List.flatMap_append, List.flatMap_cons, ← hP, hD, List.append_assoc]
set_option maxRecDepth 100000 in
set_option maxHeartbeats 2000000 in
theorem InsertBan_grow (b n c i vb base bv : Nat) (xs : List Ban) (x : Ban) (w : World) (hi : i < n) (hroom : c < n + 1) (hn : n ≤ 1048576) (hb : base ≤ w.heap.size) (hl : xs.length = n) (ho : w.ownsRow base 42 4 (.slice (some ⟨b, 0, none⟩) n c) n (xs.flatMap Ban.cs)) (hv : w.ownsRow bv 42 4 (.slice (some ⟨vb, 0, none⟩) 1 1) 1 x.cs) :
    Calls Try.prog 36 #[.slice (some ⟨b, 0, none⟩) n c, .int .i64 i, .slice (some ⟨vb, 0, none⟩) 1 1] w fun e w' => ∃ A' c', e = .returned (.slice A' (n + 1) c') ∧ w'.ownsRow base 42 4 (.slice A' (n + 1) c') (n + 1) ((xs.take i ++ x :: xs.drop i).flatMap Ban.cs) ∧ Ext w w' := by
  obtain ⟨i0, hi0, hz0, hz1, hz2⟩ := info_parts infoBan
  obtain ⟨_, hnc, hcm, _, _, _, _⟩ := own_form2 ho
  unfold maxLen at hcm
  have flen : ∀ ys : List Ban, (ys.flatMap Ban.cs).length = ys.length * 4 := flat_length Ban.cs 4 Ban.len
  have fone : ∀ ys : List Ban, ∀ u ∈ ys.flatMap Ban.cs, u.oneCell' = true := fun ys u hu => by
    obtain ⟨y, _, hy⟩ := List.mem_flatMap.1 hu
    simp only [Ban.cs, List.mem_cons, List.not_mem_nil, or_false] at hy
    rcases hy with rfl | rfl | rfl | rfl <;> rfl
  have hone : ∀ u ∈ x.cs, u.oneCell' = true := fun u hu => fone [x] u (by simpa using hu)
  have hbw : b < w.heap.size := (ho.lt _ rfl).2
  have hvw : vb < w.heap.size := (hv.lt _ rfl).2
  have hdl : ((xs.drop i).flatMap Ban.cs).length = (n - i) * 4 := by rw [flen, List.length_drop, hl]
  have e1 : xs.flatMap Ban.cs = (xs.take i).flatMap Ban.cs ++ (xs.drop i).flatMap Ban.cs := by rw [← List.flatMap_append, List.take_append_drop]
  have hpl : ((xs.take i).flatMap Ban.cs).length = i * 4 := by rw [flen, List.length_take, hl, Nat.min_eq_left (by omega)]
  have hsrc : ∀ j u, ((xs.drop i).flatMap Ban.cs)[j]? = some u → w.cell? ⟨b, i * 4 + j, none⟩ = some u := fun j u hj => by
    refine own_at ho ?_
    rw [e1, List.getElem?_append_right (by rw [hpl]; omega), hpl, Nat.add_sub_cancel_left]
    exact hj
  have hsrc0 : ∀ j u, ((xs.take i).flatMap Ban.cs)[j]? = some u → w.drew.cell? ((⟨b, 0, none⟩ : Addr).add j) = some u := fun j u hj => by
    rw [Addr.add_mid, Nat.zero_add]
    refine (Ext.refl w).drew.cell1 (own_at ho ?_)
    rw [e1, List.getElem?_append_left ((List.getElem?_eq_some_iff.1 hj).1)]
    exact hj
  have hold : (Builtin.firstCells i0.size i (.slice (some ⟨b, 0, none⟩) i c)).run Try.prog w.drew = .ok ((xs.take i).flatMap Ban.cs).toArray w.drew := by
    rw [hz1]
    exact run_firstCells_some w.drew 4 i ⟨b, 0, none⟩ i c _ hpl hsrc0
  have hik : i + (n + 1 - i) = n + 1 := by omega
  have hkk : (n : Int) + 1 - (i : Int) = ((n + 1 - i : Nat) : Int) := by omega
  obtain ⟨G, hG⟩ : ∃ G, G = grownCap w (n + 1) c 42 := ⟨_, rfl⟩
  obtain ⟨ROW, hROW⟩ : ∃ ROW : Array Value, ROW = ((xs.take i).flatMap Ban.cs).toArray ++ Builtin.zeroCells (Value.cells (.agg #[.int .i64 0, .int .i64 0, .int .i64 0, .int .i64 0])) (n + 1 - i) ++ Builtin.zeroCells (Value.cells (.agg #[.int .i64 0, .int .i64 0, .int .i64 0, .int .i64 0])) (G - (n + 1)) := ⟨_, rfl⟩
  have hrz : ∀ ty, (Builtin.append_ #[25, 3] ty #[.slice (some ⟨b, 0, none⟩) i c, .int .i64 ((n : Int) + 1 - (i : Int))]).run Try.prog w = .ok (.slice (some ⟨w.heap.size, 0, none⟩) (n + 1) G) (w.drew.alloc (.cells ROW 42)) := fun ty => by
    have h := Lib.run_append_grow_zeros w 25 3 ty 42 i0 _ .i64 .i64 Try.underlying25 Try.underlying3 hi0 hz0 (some ⟨b, 0, none⟩) i c _ hold (n + 1 - i) (by omega) (by rw [hz1]; omega) (by omega) (by omega) (by rw [hz2]; omega) (by rw [hz2, hik]; exact growslice_fits hroom (by omega))
    rw [hik] at h
    rw [hkk, hROW, hG]
    exact h
  have hGn : n + 1 ≤ G := by rw [hG]; exact grownCap_ge w _ _ _
  have hGm : G ≤ maxLen := by rw [hG]; exact grownCap_le_maxLen w (n + 1) c _ (by unfold maxLen; omega)
  have hzl : ∀ k, (Builtin.zeroCells (Value.cells (.agg #[.int .i64 0, .int .i64 0, .int .i64 0, .int .i64 0])) k).toList.length = k * 4 := fun k => by
    rw [Array.length_toList, size_zeroCells]; rfl
  have hRl : ROW.size = G * 4 := by
    have h1 := hzl (n + 1 - i)
    have h2 := hzl (G - (n + 1))
    rw [Array.length_toList] at h1 h2
    rw [hROW, Array.size_append, Array.size_append, List.size_toArray, hpl, h1, h2]
    omega
  have hRt : ROW.toList.take ((n + 1) * 4) = (xs.take i).flatMap Ban.cs ++ (Builtin.zeroCells (Value.cells (.agg #[.int .i64 0, .int .i64 0, .int .i64 0, .int .i64 0])) (n + 1 - i)).toList := by
    rw [hROW, Array.toList_append, Array.toList_append]
    exact List.take_left' (by rw [List.length_append, hzl, hpl]; omega)
  obtain ⟨W1, hW1⟩ : ∃ W1, W1 = w.drew.alloc (.cells ROW 42) := ⟨_, rfl⟩
  have hE1 : Ext w W1 := by rw [hW1]; exact (Ext.refl w).drew.alloc _
  have hO1 : W1.ownsRow base 42 4 (.slice (some ⟨w.heap.size, 0, none⟩) (n + 1) G) (n + 1) ((xs.take i).flatMap Ban.cs ++ (Builtin.zeroCells (Value.cells (.agg #[.int .i64 0, .int .i64 0, .int .i64 0, .int .i64 0])) (n + 1 - i)).toList) := by
    refine ⟨by rw [List.length_append, hpl, hzl]; omega, .inr ⟨w.heap.size, G, ROW, rfl, hb, ?_, hGn, hGm, hRl, hRt⟩⟩
    rw [hW1]
    exact heap_alloc_new w.drew _
  rw [← hW1] at hrz
  have hv1 := hE1.own hv
  have hcpA : ∀ ty dc, (Builtin.copy_ #[25, 25] ty #[.slice (some ⟨w.heap.size, i * 4, none⟩) (n + 1 - i) dc, .slice (some ⟨vb, 0, none⟩) 1 1]).run Try.prog W1 = .ok (goInt (1 : Nat)) (W1.setCells w.heap.size (i * 4) x.cs) := fun ty dc =>
    copyN W1 _ _ ty 42 4 w.heap.size (i * 4) (n + 1 - i) dc ⟨vb, 0, none⟩ 1 1 x.cs (by omega) Try.underlying25 sizeBan 1 (by simp only [Nat.min_def]; split <;> omega) (by rw [Ban.len])
      (fun j v hj => by rw [Addr.add_mid, Nat.zero_add]; exact own_at hv1 hj) (fun j hj => by rw [Ban.len] at hj; obtain ⟨u, hu⟩ := own_cell (j := i * 4 + j) hO1 (by omega); rw [hu]; rfl) (fun j hj => hO1.frozenAt _) hone
  have hO2 := own_setCells x.cs (i * 4) W1 _ hO1
  obtain ⟨W2, hW2⟩ : ∃ W2, W2 = W1.setCells w.heap.size (i * 4) x.cs := ⟨_, rfl⟩
  rw [← hW2] at hcpA hO2
  have hE2 : Ext w W2 := hE1.row hO2.2 (Nat.le_refl _)
  have hO3 := (Ext.refl W2).drew.own hO2.1
  have hcpB : ∀ ty dc sc, (Builtin.copy_ #[25, 25] ty #[.slice (some ⟨w.heap.size, (i + 1) * 4, none⟩) (n - i) dc, .slice (some ⟨b, i * 4, none⟩) (n - i) sc]).run Try.prog W2.drew = .ok (goInt (n - i : Nat)) (W2.drew.setCells w.heap.size ((i + 1) * 4) ((xs.drop i).flatMap Ban.cs)) := fun ty dc sc =>
    copyN W2.drew _ _ ty 42 4 w.heap.size ((i + 1) * 4) (n - i) dc ⟨b, i * 4, none⟩ (n - i) sc _ (by omega) Try.underlying25 sizeBan (n - i) (by simp only [Nat.min_def]; split <;> omega) hdl
      (fun j v hj => by rw [Addr.add_mid]; exact (hE2.drew).cell1 (hsrc j v hj)) (fun j hj => by rw [hdl] at hj; obtain ⟨u, hu⟩ := own_cell (j := (i + 1) * 4 + j) hO3 (by omega); rw [hu]; rfl) (fun j hj => hO3.frozenAt _) (fone _)
  have hO4 := own_setCells ((xs.drop i).flatMap Ban.cs) ((i + 1) * 4) W2.drew _ hO3
  rw [growL_Ban xs i x _ _ (by omega) rfl (by rw [hzl, hl])] at hO4
  have HF := Lib.hid hO4.1
  have HE := Lib.hid (show Ext w (W2.drew.setCells w.heap.size ((i + 1) * 4) ((xs.drop i).flatMap Ban.cs)) from hE2.drew.row hO4.2 (Nat.le_refl _))
  unfold maxLen at hGm
  have hz2' : ¬ ((i : Int) = (n : Int)) := by omega
  have hz3 : (c : Int) < (n : Int) + 1 := by omega
  have hw1 : IntKind.i64.wrap ((i : Int) + 1) = (i : Int) + 1 := by rw [IntKind.wrap_i64]; omega
  have hw2 : IntKind.i64.wrap ((n : Int) + 1) = (n : Int) + 1 := by rw [IntKind.wrap_i64]; omega
  have hw3 : IntKind.i64.wrap ((n : Int) + 1 - (i : Int)) = (n : Int) + 1 - (i : Int) := by rw [IntKind.wrap_i64]; omega
  have hb1 : (0 : Int) ≤ (i : Int) + 1 := by omega
  have hin : i ≤ n := by omega
  have htn : ((i : Int) + 1).toNat = i + 1 := by omega
  have hb2 : ¬ (G = i + 1) := by omega
  have hb3 : (i : Int) ≤ (n : Int) := by omega
  have hb4 : ¬ (G = i) := by omega
  have hb6 : ¬ (c = i) := by omega
  have hb5 : (i : Int) + 1 ≤ (n : Int) + 1 := by omega
  have hb7 : (i : Int) ≤ (n : Int) + 1 := by omega
  have hb8 : i ≤ c := by omega
  clear hW1 hW2 hO1 hO2 hO3 hO4 hE1 hE2 hv1 hRt hRl hROW hG hold hsrc hsrc0 ho hv fone flen hone hdl hpl e1 hzl hik hkk hi0 hz0 hz1 hz2
  go_enter Try.func36, Try.ntmps36
  go_wp2_with (first | (at_builtin; refine wpList_appN _ rfl (.tmp 34) (.tmp 39) _ _ rfl _ _ rfl rfl (hrz _) ?_) | (at_builtin; refine wpList_copyN _ rfl (.tmp 43) (.tmp 44) 25 25 rfl _ _ rfl rfl (hcpA _ _) ?_))
  go_region_law (refine step_copyN rfl _ _ 25 25 rfl _ _ (by simp [Act.eval, Act.put]) (by simp [Act.eval, Act.put]) (hcpB _ _ _) ?_)
  go_wp2
  go_ret
  exact ⟨_, _, rfl, HF.out, HE.out⟩
end Go.Proofs.Ytekggbmpogmlcaa
