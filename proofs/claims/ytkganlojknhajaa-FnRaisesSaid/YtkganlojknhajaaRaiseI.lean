/- RaiseRate: the program's entry (made by wip/raise.py). -/
import Derived.Test.YtkganlojknhajaaRaiseP
import Derived.Deep.RegionHeld3
namespace Go.Proofs.Ytkganlojknhajaa
open Go.RowKit
set_option linter.unusedVariables false
set_option linter.unusedSimpArgs false
attribute [local go_sem] ExtOf.cell

theorem InsertRate_succ (A : Option Addr) (n c i vb base bv : Nat) (xs : List Rate) (x : Rate) (w : World) (hi : i + 1 ≤ n) (hn : n ≤ 1048576) (hb : base ≤ w.heap.size) (hl : xs.length = n) (ho : w.ownsRow base 25 5 (.slice A n c) n (xs.flatMap Rate.cs)) (hv : w.ownsRow bv 25 5 (.slice (some ⟨vb, 0, none⟩) 1 1) 1 x.cs) (hne : ∀ k, Value.ownBlock (.slice A n c) = some k → k ≠ vb) :
    Calls Try.prog 71 #[.slice A n c, .int .i64 ((i : Int) + 1), .slice (some ⟨vb, 0, none⟩) 1 1] w fun e w' => ∃ A' c', e = .returned (.slice A' (n + 1) c') ∧ w'.ownsRow base 25 5 (.slice A' (n + 1) c') (n + 1) ((xs.take (i + 1) ++ x :: xs.drop (i + 1)).flatMap Rate.cs) ∧ w.grownBy w' (Value.ownBlock (.slice A n c)) :=
  InsertRate_any A n c (i + 1) vb base bv xs x w hi hn hb hl ho hv hne
/-- What is kept: three boxes and one cell of the list. -/
structure RSt (w : World) (z g d : Int) (b o : Nat) (u : Int) (W : World) : Prop where
  ext : Ext w W
  c0 : W.cell? ⟨w.heap.size, 0, none⟩ = some (.int .i64 z)
  c1 : W.cell? ⟨w.heap.size + 1, 0, none⟩ = some (.int .i64 g)
  c2 : W.cell? ⟨w.heap.size + 2, 0, none⟩ = some (.int .i64 d)
  c3 : W.cell? ⟨b, o, none⟩ = some (.int .i64 u)
  hb : b < w.heap.size
theorem RSt.lt {w W : World} {z g d : Int} {b o : Nat} {u : Int} (h : RSt w z g d b o u W) : w.heap.size + 3 ≤ W.heap.size := World.block_lt_of_cell? W _ h.c2
theorem RSt.step {w W W' : World} {z g d : Int} {b o : Nat} {u : Int} (h : RSt w z g d b o u W) (he : Ext W W') : RSt w z g d b o u W' := ⟨h.ext.trans he, he.cell1 h.c0, he.cell1 h.c1, he.cell1 h.c2, he.cell1 h.c3, h.hb⟩
theorem RSt.grow {w W W' : World} {z g d : Int} {b o : Nat} {u : Int} (h : RSt w z g d b o u W) {A : Option Addr} {n c T s q : Nat} {cs : List Value} (hg : W.grownBy W' (Value.ownBlock (.slice A n c))) (ho : W.ownsRow (w.heap.size + 3) T s (.slice A n c) q cs) : RSt w z g d b o u W' := by
  have off : ∀ g, g < w.heap.size + 3 → Off A g := fun g hlt b' x s' e => by subst e; have := (ho.lt b' rfl).1; omega
  exact ⟨h.ext.grown hg (fun k hk => by have := (ho.lt k hk).1; omega), grown_cell hg (off _ (by omega)) h.c0, grown_cell hg (off _ (by omega)) h.c1, grown_cell hg (off _ (by omega)) h.c2, grown_cell hg (off _ (by have := h.hb; omega)) h.c3, h.hb⟩
theorem RSt.row {w W W' : World} {z g d : Int} {b o : Nat} {u : Int} (h : RSt w z g d b o u W) {k : Nat} (hg : W.grownBy W' (some k)) (hk : w.heap.size + 3 ≤ k) : Ext w W' := h.ext.row hg (by omega)
def box3 (w : World) (z g d : Int) : World := ((w.alloc (.cells #[.int .i64 z] 3)).alloc (.cells #[.int .i64 g] 3)).alloc (.cells #[.int .i64 d] 3)
theorem box3_st (w : World) (z g d : Int) {b o : Nat} {u : Int} (hb : b < w.heap.size) (hu : w.cell? ⟨b, o, none⟩ = some (.int .i64 u)) : RSt w z g d b o u (box3 w z g d) := by
  have e1 : Ext w (box3 w z g d) := (((Ext.refl w).alloc _).alloc _).alloc _
  have s1 : (w.alloc (.cells #[.int .i64 z] 3)).heap.size = w.heap.size + 1 := by simp
  have s2 : ((w.alloc (.cells #[.int .i64 z] 3)).alloc (.cells #[.int .i64 g] 3)).heap.size = w.heap.size + 2 := by simp
  refine ⟨e1, ?_, ?_, ?_, e1.cell1 hu, hb⟩
  · exact ((Ext.refl _).alloc _).cell1 (((Ext.refl _).alloc _).cell1 (new_cell w _ _ 0 _ rfl))
  · have := new_cell (w.alloc (.cells #[.int .i64 z] 3)) #[.int .i64 g] 3 0 _ rfl
    rw [s1] at this
    exact ((Ext.refl _).alloc _).cell1 this
  · have := new_cell ((w.alloc (.cells #[.int .i64 z] 3)).alloc (.cells #[.int .i64 g] 3)) #[.int .i64 d] 3 0 _ rfl
    rw [s2] at this
    exact this
theorem box3_0 (w : World) (z g d : Int) : Ext w (box3 w z g d) ∧ (box3 w z g d).cell? ⟨w.heap.size, 0, none⟩ = some (.int .i64 z) ∧ (box3 w z g d).cell? ⟨w.heap.size + 1, 0, none⟩ = some (.int .i64 g) ∧ (box3 w z g d).cell? ⟨w.heap.size + 2, 0, none⟩ = some (.int .i64 d) := by
  have e1 : Ext w (box3 w z g d) := (((Ext.refl w).alloc _).alloc _).alloc _
  have s1 : (w.alloc (.cells #[.int .i64 z] 3)).heap.size = w.heap.size + 1 := by simp
  have s2 : ((w.alloc (.cells #[.int .i64 z] 3)).alloc (.cells #[.int .i64 g] 3)).heap.size = w.heap.size + 2 := by simp
  refine ⟨e1, ?_, ?_, ?_⟩
  · exact ((Ext.refl _).alloc _).cell1 (((Ext.refl _).alloc _).cell1 (new_cell w _ _ 0 _ rfl))
  · have := new_cell (w.alloc (.cells #[.int .i64 z] 3)) #[.int .i64 g] 3 0 _ rfl
    rw [s1] at this
    exact ((Ext.refl _).alloc _).cell1 this
  · have := new_cell ((w.alloc (.cells #[.int .i64 z] 3)).alloc (.cells #[.int .i64 g] 3)) #[.int .i64 d] 3 0 _ rfl
    rw [s2] at this
    exact this

set_option maxRecDepth 100000 in
set_option maxHeartbeats 4000000 in
theorem RaiseRateI_any (A : Option Addr) (n c : Nat) (xs : List Rate) (z g d cc : Int) (w : World) (h : RateL w A n xs) :
    Calls Try.prog 41 #[.slice A n c, .int .i64 z, .int .i64 g, .int .i64 d, .int .i64 cc] w (RaisePost (raiseO xs z g d cc) w) := by
  have hsm := h.small
  have H := Lib.hid h.len
  obtain ⟨eW, q0, q1, q2⟩ := box3_0 w z g d
  have P0 := Lib.hid q0
  have P1 := Lib.hid q1
  have P2 := Lib.hid q2
  clear q0 q1 q2
  have CA := Lib.hid (fun (w' : World) (he : Ext w w') => areRates_any A n c xs w' (h.ext he))
  rcases chain5 (RatesOk xs) (inB z 0 9) (inB g 1 2000) (inB d 0 4000) (inB cc 1 9999) with h1 | ⟨h1, h2⟩ | ⟨h1, h2, h3⟩ | ⟨h1, h2, h3, h4⟩ | ⟨h1, h2, h3, h4, h5⟩ | ⟨h1, h2, h3, h4, h5⟩
  iterate 5
    · rw [show raiseO xs z g d cc = none by first | (refine raise_ask ?_; simp [askA, *]; done) | (refine raise_bad h1 ?_; simp [*]; done)]
      go_enter Try.func41, Try.ntmps41
      go_wp2_with fail

      go_wp2_with (first | (go_at_call 53; refine (CA.out _ eW).mono ?_; rintro e wa ⟨rfl, he1⟩; have p0 := he1.cell1 P0.out; have p1 := he1.cell1 P1.out; have p2 := he1.cell1 P2.out; have z0 : w.heap.size < wa.heap.size := World.block_lt_of_cell? wa _ p0; have z1 : w.heap.size + 1 < wa.heap.size := World.block_lt_of_cell? wa _ p1; have z2 : w.heap.size + 2 < wa.heap.size := World.block_lt_of_cell? wa _ p2) | (go_at_call 60; refine (isZone_any _ _).mono ?_; rintro e w' ⟨rfl, rfl⟩) | (go_at_call 61; refine (isWeight_any _ _).mono ?_; rintro e w' ⟨rfl, rfl⟩) | (go_at_call 59; refine (isDay_any _ _).mono ?_; rintro e w' ⟨rfl, rfl⟩) | (go_at_call 65; refine (isCents_any _ _).mono ?_; rintro e w' ⟨rfl, rfl⟩) | (go_at_call 69; refine (IndexRaise_any A n c xs z g d w.heap.size _ (h.ext (eW.trans he1)) p0 p1 p2).mono ?_; rintro e wq ⟨rfl, hq⟩))
      go_ret2
      exact RaisePost.nil (eW.trans he1)
  have ha : askA xs d cc = true := by simp [askA, h1, h4, h5]
  have HWF := Lib.hid (fun (k : Nat) (r : Rate) (hx : xs[k]? = some r) => raise_wf (c := cc) h.wf hx h4 h5)
  obtain ⟨hd1, hd2⟩ := inB_iff.1 h4
  have hn16 : n ≤ 16 := by
    have h6 := h1
    simp only [RatesOk, Bool.and_eq_true, decide_eq_true_eq] at h6
    have := H.out
    omega
  rcases firstAt_two (hitR z g d) xs with ⟨hf, hn⟩ | ⟨k, r, hk, hf, hx, hp, hn⟩
  · rw [raise_none hn]
    have HF := Lib.hid hf
    clear hf hn ha
    go_enter Try.func41, Try.ntmps41
    go_wp2_with fail

    go_wp2_with (first | (go_at_call 53; refine (CA.out _ eW).mono ?_; rintro e wa ⟨rfl, he1⟩; have p0 := he1.cell1 P0.out; have p1 := he1.cell1 P1.out; have p2 := he1.cell1 P2.out; have z0 : w.heap.size < wa.heap.size := World.block_lt_of_cell? wa _ p0; have z1 : w.heap.size + 1 < wa.heap.size := World.block_lt_of_cell? wa _ p1; have z2 : w.heap.size + 2 < wa.heap.size := World.block_lt_of_cell? wa _ p2) | (go_at_call 60; refine (isZone_any _ _).mono ?_; rintro e w' ⟨rfl, rfl⟩) | (go_at_call 61; refine (isWeight_any _ _).mono ?_; rintro e w' ⟨rfl, rfl⟩) | (go_at_call 59; refine (isDay_any _ _).mono ?_; rintro e w' ⟨rfl, rfl⟩) | (go_at_call 65; refine (isCents_any _ _).mono ?_; rintro e w' ⟨rfl, rfl⟩) | (go_at_call 69; refine (IndexRaise_any A n c xs z g d w.heap.size _ (h.ext (eW.trans he1)) p0 p1 p2).mono ?_; rintro e wq ⟨rfl, hq⟩; rw [HF.out]))
    go_ret2
    exact RaisePost.nil (eW.trans (he1.trans hq))
  · rw [raise_some ha hn hx hp]
    have hkn : k < n := by have := H.out; omega
    have hk1 : k + 1 ≤ n := hkn
    have HF := Lib.hid hf
    have HX := Lib.hid hx
    obtain ⟨rfl, rfl, hp3, hp4⟩ := hitR_iff.1 hp
    obtain ⟨b, off, r', eA, hb, hx', g0, g1, g2, g3, g4⟩ := h.at_ hkn
    obtain rfl : r = r' := by have := hx.symm.trans hx'.out; injection this
    subst eA
    clear hf hn ha hx hp hx' g0 g1 g2
    have G3 := Lib.hid g3
    have G4 := Lib.hid g4
    clear g3 g4
    by_cases hc : r.Cents = cc
    · have t1 : (r.Cents == cc) = true := by simpa using hc
      have t2 : decide (r.Cents = cc) = true := by simpa using hc
      rw [show raiseAt xs k r d cc = none by unfold raiseAt; rw [if_pos hc]]
      clear hc
      go_enter Try.func41, Try.ntmps41
      go_wp2_with fail

      go_wp2_with (first | (go_at_call 53; refine (CA.out _ eW).mono ?_; rintro e wa ⟨rfl, he1⟩; have p0 := he1.cell1 P0.out; have p1 := he1.cell1 P1.out; have p2 := he1.cell1 P2.out; have z0 : w.heap.size < wa.heap.size := World.block_lt_of_cell? wa _ p0; have z1 : w.heap.size + 1 < wa.heap.size := World.block_lt_of_cell? wa _ p1; have z2 : w.heap.size + 2 < wa.heap.size := World.block_lt_of_cell? wa _ p2) | (go_at_call 60; refine (isZone_any _ _).mono ?_; rintro e w' ⟨rfl, rfl⟩) | (go_at_call 61; refine (isWeight_any _ _).mono ?_; rintro e w' ⟨rfl, rfl⟩) | (go_at_call 59; refine (isDay_any _ _).mono ?_; rintro e w' ⟨rfl, rfl⟩) | (go_at_call 65; refine (isCents_any _ _).mono ?_; rintro e w' ⟨rfl, rfl⟩) | (go_at_call 69; refine (IndexRaise_any (some ⟨b, off, none⟩) n c xs r.Zone r.Grams d w.heap.size _ (h.ext (eW.trans he1)) p0 p1 p2).mono ?_; rintro e wq ⟨rfl, hq⟩; rw [HF.out]; have v4 := (eW.trans (he1.trans hq)).cell1 G4.out; have hbq : b < wq.heap.size := World.block_lt_of_cell? wq _ v4))
      go_ret2
      exact RaisePost.nil (eW.trans (he1.trans hq))
    · have t1 : (r.Cents == cc) = false := by simpa using hc
      have t2 : decide (r.Cents = cc) = false := by simpa using hc
      have HR := Lib.hid (show raiseAt xs k r d cc = if RatesOk (raiseL xs k r d cc) then some (raiseL xs k r d cc) else none by unfold raiseAt; rw [if_neg hc])
      clear hc
      have wk : IntKind.i64.wrap ((k : Int) + 1) = (k : Int) + 1 := IntWalk.i64_in _ (by omega)
      go_enter Try.func41, Try.ntmps41
      go_wp2_with fail

      go_wp2_with (first | (go_at_call 53; refine (CA.out _ eW).mono ?_; rintro e wa ⟨rfl, he1⟩; have p0 := he1.cell1 P0.out; have p1 := he1.cell1 P1.out; have p2 := he1.cell1 P2.out; have z0 : w.heap.size < wa.heap.size := World.block_lt_of_cell? wa _ p0; have z1 : w.heap.size + 1 < wa.heap.size := World.block_lt_of_cell? wa _ p1; have z2 : w.heap.size + 2 < wa.heap.size := World.block_lt_of_cell? wa _ p2) | (go_at_call 60; refine (isZone_any _ _).mono ?_; rintro e w' ⟨rfl, rfl⟩) | (go_at_call 61; refine (isWeight_any _ _).mono ?_; rintro e w' ⟨rfl, rfl⟩) | (go_at_call 59; refine (isDay_any _ _).mono ?_; rintro e w' ⟨rfl, rfl⟩) | (go_at_call 65; refine (isCents_any _ _).mono ?_; rintro e w' ⟨rfl, rfl⟩) | (go_at_call 69; refine (IndexRaise_any (some ⟨b, off, none⟩) n c xs r.Zone r.Grams d w.heap.size _ (h.ext (eW.trans he1)) p0 p1 p2).mono ?_; rintro e wq ⟨rfl, hq⟩; rw [HF.out]; have v4 := (eW.trans (he1.trans hq)).cell1 G4.out; have hbq : b < wq.heap.size := World.block_lt_of_cell? wq _ v4))
      have NQ := Lib.hid ((box3_st w r.Zone r.Grams d hb G3.out).step (he1.trans hq))
      have x0 := NQ.out.c0
      have x1 := NQ.out.c1
      have x2 := NQ.out.c2
      have x3 := NQ.out.c3
      clear p0 p1 p2 z0 z1 z2 v4
      refine wp_region_held_drew (S := (fun w' => w'.cell? ⟨w.heap.size, 0, none⟩ = some (.int .i64 r.Zone) ∧ w'.cell? ⟨w.heap.size + 1, 0, none⟩ = some (.int .i64 r.Grams) ∧ w'.cell? ⟨w.heap.size + 2, 0, none⟩ = some (.int .i64 d) ∧ w'.cell? ⟨b, off + k * 5 + 3, none⟩ = some (.int .i64 r.Until))) (by kernel_rfl) ?_ (fun hHeld => ?_); (focus ((try dsimp only); (repeat' apply And.intro) <;> first | assumption | exact Ext.cell1 (Ext.drew (Ext.refl _)) (by assumption) | (simp [*, go_sem]; done) | (simp [*, go_sem, World.cell?_alloc_past]; done)))
      have N0 := Lib.hid (NQ.out.step ((Ext.refl wq).drew))
      clear x0 x1 x2 x3
      (refine wpAnyH_take (i := 0) (v := ?_) rfl (by kernel_rfl) (by kernel_rfl) (by kernel_rfl) (fun _ _ _ h => h) (Or.inl ⟨by rfl, ?_⟩) (by assumption) ?_); rotate_left 1; (focus (intro w hSw; (try dsimp only at hSw); go_simp; (try with_reducible rfl))); (try simp only [Act.put, List.setIfInBounds_toArray, List.set_cons_zero, List.set_cons_succ]); (refine wpAnyH_take (i := 2) (v := ?_) rfl (by kernel_rfl) (by kernel_rfl) (by kernel_rfl) (fun _ _ _ h => h) (Or.inl ⟨by rfl, ?_⟩) (by assumption) ?_); rotate_left 1; (focus (intro w hSw; (try dsimp only at hSw); go_simp; (try with_reducible rfl))); (try simp only [Act.put, List.setIfInBounds_toArray, List.set_cons_zero, List.set_cons_succ]); (refine wpAnyH_take (i := 3) (v := ?_) rfl (by kernel_rfl) (by kernel_rfl) (by kernel_rfl) (fun _ _ _ h => h) (Or.inl ⟨by rfl, ?_⟩) (by assumption) ?_); rotate_left 1; (focus (intro w hSw; (try dsimp only at hSw); go_simp; (try with_reducible rfl))); (try simp only [Act.put, List.setIfInBounds_toArray, List.set_cons_zero, List.set_cons_succ]); (refine wpAnyH_take (i := 4) (v := ?_) rfl (by kernel_rfl) (by kernel_rfl) (by kernel_rfl) (fun _ _ _ h => h) (Or.inl ⟨by rfl, ?_⟩) (by assumption) ?_); rotate_left 1; (focus (intro w hSw; (try dsimp only at hSw); go_simp; (try with_reducible rfl))); (try simp only [Act.put, List.setIfInBounds_toArray, List.set_cons_zero, List.set_cons_succ]); (refine wpAnyH_take (i := 5) (v := ?_) rfl (by kernel_rfl) (by kernel_rfl) (by kernel_rfl) (fun _ _ _ h => h) (Or.inl ⟨by rfl, ?_⟩) (by assumption) ?_); rotate_left 1; (focus (intro w hSw; (try dsimp only at hSw); go_simp; (try with_reducible rfl))); (try simp only [Act.put, List.setIfInBounds_toArray, List.set_cons_zero, List.set_cons_succ]); (refine wpAnyH_take (i := 6) (v := ?_) rfl (by kernel_rfl) (by kernel_rfl) (by kernel_rfl) (fun _ _ _ h => h) (Or.inl ⟨by rfl, ?_⟩) (by assumption) ?_); rotate_left 1; (focus (intro w hSw; (try dsimp only at hSw); go_simp; (try with_reducible rfl))); (try simp only [Act.put, List.setIfInBounds_toArray, List.set_cons_zero, List.set_cons_succ]); (refine wpAnyH_take (i := 7) (v := ?_) rfl (by kernel_rfl) (by kernel_rfl) (by kernel_rfl) (fun _ _ _ h => h) (Or.inl ⟨by rfl, ?_⟩) (by assumption) ?_); rotate_left 1; (focus (intro w hSw; (try dsimp only at hSw); go_simp; (try with_reducible rfl))); (try simp only [Act.put, List.setIfInBounds_toArray, List.set_cons_zero, List.set_cons_succ]); (refine wpAnyH_take (i := 8) (v := ?_) rfl (by kernel_rfl) (by kernel_rfl) (by kernel_rfl) (fun _ _ _ h => h) (Or.inl ⟨by rfl, ?_⟩) (by assumption) ?_); rotate_left 1; (focus (intro w hSw; (try dsimp only at hSw); go_simp; (try with_reducible rfl))); (try simp only [Act.put, List.setIfInBounds_toArray, List.set_cons_zero, List.set_cons_succ]); (refine wpAnyH_take (i := 9) (v := ?_) rfl (by kernel_rfl) (by kernel_rfl) (by kernel_rfl) (fun _ _ _ h => h) (Or.inl ⟨by rfl, ?_⟩) (by assumption) ?_); rotate_left 1; (focus (intro w hSw; (try dsimp only at hSw); go_simp; (try with_reducible rfl))); (try simp only [Act.put, List.setIfInBounds_toArray, List.set_cons_zero, List.set_cons_succ]); (refine wpAnyH_take (i := 10) (v := ?_) rfl (by kernel_rfl) (by kernel_rfl) (by kernel_rfl) (fun _ _ _ h => h) (Or.inl ⟨by rfl, ?_⟩) (by assumption) ?_); rotate_left 1; (focus (intro w hSw; (try dsimp only at hSw); go_simp; (try with_reducible rfl))); (try simp only [Act.put, List.setIfInBounds_toArray, List.set_cons_zero, List.set_cons_succ]); (refine wpAnyH_take (i := 11) (v := ?_) rfl (by kernel_rfl) (by kernel_rfl) (by kernel_rfl) (fun _ _ _ h => h) (Or.inl ⟨by rfl, ?_⟩) (by assumption) ?_); rotate_left 1; (focus (intro w hSw; (try dsimp only at hSw); go_simp; (try with_reducible rfl))); (try simp only [Act.put, List.setIfInBounds_toArray, List.set_cons_zero, List.set_cons_succ]); (refine wpAnyH_take (i := 12) (v := ?_) rfl (by kernel_rfl) (by kernel_rfl) (by kernel_rfl) (fun _ _ _ h => h) (Or.inl ⟨by rfl, ?_⟩) (by assumption) ?_); rotate_left 1; (focus (intro w hSw; (try dsimp only at hSw); go_simp; (try with_reducible rfl))); (try simp only [Act.put, List.setIfInBounds_toArray, List.set_cons_zero, List.set_cons_succ]); (refine wpAnyH_take (i := 13) (v := ?_) rfl (by kernel_rfl) (by kernel_rfl) (by kernel_rfl) (fun _ _ _ h => h) (Or.inl ⟨by rfl, ?_⟩) (by assumption) ?_); rotate_left 1; (focus (intro w hSw; (try dsimp only at hSw); go_simp; (try with_reducible rfl))); (try simp only [Act.put, List.setIfInBounds_toArray, List.set_cons_zero, List.set_cons_succ])
      clear hHeld NQ
      have hbv : b < w.heap.size := hb
      refine wpAnyH_ready (rs := [1, 14]) (by kernel_rfl) (by simp) ?_; refine AllReadyH.cons rfl (fun K hK => ?_) (AllReadyH.cons rfl (fun K hK => ?_) (AllReadyH.nil))
      rotate_left
      focus
        have N1 := Lib.hid (N0.out.step ((Ext.refl wq.drew).alloc (.cells #[.int .i64 r.Zone, .int .i64 r.Grams, .int .i64 d, .int .i64 r.Until, .int .i64 cc] 25)))
        have ac0 := N1.out.c0
        have ac1 := N1.out.c1
        have ac2 := N1.out.c2
        have ac3 := N1.out.c3
        go_simp; (try simp only [Act.put, List.setIfInBounds_toArray, List.set_cons_zero, List.set_cons_succ]); (try go_wp2_with fail); refine hK.out _ _ ?_ (fun hHeld => ?_); (focus exact ⟨ac0, ac1, ac2, ac3⟩); clear hK K; (try simp only [Act.put, List.setIfInBounds_toArray, List.set_cons_zero, List.set_cons_succ])
        have vb := own_block wq.drew 25 (newR d cc r).cs
        simp only [World.size_drew] at vb
        have VB := Lib.hid vb
        clear vb
        have ltw := N0.out.lt
        simp only [World.size_drew] at ltw
        refine wpAnyH_ready (rs := [1]) (by kernel_rfl) (by simp) ?_; refine AllReadyH.cons rfl (fun K hK => ?_) AllReadyH.nil; go_simp; (try simp only [Act.put, List.setIfInBounds_toArray, List.set_cons_zero, List.set_cons_succ]); (try go_wp2_with (go_at_call 72; refine (CloneRate_any _ n c xs _ hsm (h.rd.ext N1.out.ext)).mono ?_; rintro e wc ⟨A1, c1, rfl, oc, he1⟩)); refine hK.out _ _ ?_ (fun hHeld => ?_); (focus exact ⟨he1.cell1 ac0, he1.cell1 ac1, he1.cell1 ac2, he1.cell1 ac3⟩); clear hK K; (try simp only [Act.put, List.setIfInBounds_toArray, List.set_cons_zero, List.set_cons_succ])
        have N2 := Lib.hid (N1.out.step he1)
        have VB2 := Lib.hid (he1.own VB.out)
        simp only [World.size_alloc, World.size_drew] at oc
        have OC := Lib.hid (own_low' oc (show w.heap.size + 3 ≤ _ by omega))
        have HNE := Lib.hid (show ∀ q, Value.ownBlock (.slice A1 n c1) = some q → q ≠ wq.heap.size from fun q hq => by have := (oc.lt q hq).1; omega)
        clear ac0 ac1 ac2 ac3 oc he1
        refine wpAnyH_ready (rs := [15]) (by kernel_rfl) (by simp) ?_; refine AllReadyH.cons rfl (fun K hK => ?_) AllReadyH.nil; go_simp; (try simp only [Act.put, List.setIfInBounds_toArray, List.set_cons_zero, List.set_cons_succ]); (try go_wp2_with (go_at_call 71; refine (InsertRate_succ A1 n c1 k wq.heap.size (w.heap.size + 3) _ xs (newR d cc r) _ hk1 hsm N2.out.lt H.out OC.out VB2.out HNE.out).mono ?_; rintro e wd ⟨A9, c9, rfl, od, gd⟩; have ND := Lib.hid (N2.out.grow gd OC.out); have d0 := ND.out.c0; have d1 := ND.out.c1; have d2 := ND.out.c2; have d3 := ND.out.c3)); refine hK.out _ _ ?_ (fun hHeld => ?_); (focus exact ⟨d0, d1, d2, d3⟩); clear hK K; (try simp only [Act.put, List.setIfInBounds_toArray, List.set_cons_zero, List.set_cons_succ])
        (refine wpAnyH_take (i := 16) (v := ?_) rfl (by kernel_rfl) (by kernel_rfl) (by kernel_rfl) (fun _ _ _ h => h) (Or.inl ⟨by rfl, ?_⟩) (by assumption) ?_); rotate_left 1; (focus (intro w hSw; (try dsimp only at hSw); go_simp; (try with_reducible rfl))); (try simp only [Act.put, List.setIfInBounds_toArray, List.set_cons_zero, List.set_cons_succ])
        refine wpAnyH_done (by kernel_rfl) ?_ _
        clear d0 d1 d2 d3
        have OD := Lib.hid od
        clear od gd N1 N2 VB VB2 OC HNE ltw N0
      rotate_left
      focus
        have bc0 := N0.out.c0
        have bc1 := N0.out.c1
        have bc2 := N0.out.c2
        have bc3 := N0.out.c3
        go_simp; (try simp only [Act.put, List.setIfInBounds_toArray, List.set_cons_zero, List.set_cons_succ]); (try go_wp2_with (go_at_call 72; refine (CloneRate_any _ n c xs _ hsm (h.rd.ext N0.out.ext)).mono ?_; rintro e wc ⟨A1, c1, rfl, oc, he1⟩)); refine hK.out _ _ ?_ (fun hHeld => ?_); (focus exact ⟨he1.cell1 bc0, he1.cell1 bc1, he1.cell1 bc2, he1.cell1 bc3⟩); clear hK K; (try simp only [Act.put, List.setIfInBounds_toArray, List.set_cons_zero, List.set_cons_succ])
        have ltw := N0.out.lt
        simp only [World.size_drew] at ltw
        simp only [World.size_drew] at oc
        have N1 := Lib.hid (N0.out.step he1)
        have ltc := N1.out.lt
        have N2 := Lib.hid (N1.out.step ((Ext.refl wc).alloc (.cells #[.int .i64 r.Zone, .int .i64 r.Grams, .int .i64 d, .int .i64 r.Until, .int .i64 cc] 25)))
        have ac0 := N2.out.c0
        have ac1 := N2.out.c1
        have ac2 := N2.out.c2
        have ac3 := N2.out.c3
        refine wpAnyH_ready (rs := [14]) (by kernel_rfl) (by simp) ?_; refine AllReadyH.cons rfl (fun K hK => ?_) AllReadyH.nil; go_simp; (try simp only [Act.put, List.setIfInBounds_toArray, List.set_cons_zero, List.set_cons_succ]); (try go_wp2_with fail); refine hK.out _ _ ?_ (fun hHeld => ?_); (focus exact ⟨ac0, ac1, ac2, ac3⟩); clear hK K; (try simp only [Act.put, List.setIfInBounds_toArray, List.set_cons_zero, List.set_cons_succ])
        have VB2 := Lib.hid (own_block wc 25 (newR d cc r).cs)
        have OC := Lib.hid (((Ext.refl wc).alloc (.cells #[.int .i64 r.Zone, .int .i64 r.Grams, .int .i64 d, .int .i64 r.Until, .int .i64 cc] 25)).own (own_low' oc (show w.heap.size + 3 ≤ _ by omega)))
        have HNE := Lib.hid (show ∀ q, Value.ownBlock (.slice A1 n c1) = some q → q ≠ wc.heap.size from fun q hq => by have := (oc.lt q hq).2; omega)
        clear ac0 ac1 ac2 ac3 bc0 bc1 bc2 bc3 oc he1
        refine wpAnyH_ready (rs := [15]) (by kernel_rfl) (by simp) ?_; refine AllReadyH.cons rfl (fun K hK => ?_) AllReadyH.nil; go_simp; (try simp only [Act.put, List.setIfInBounds_toArray, List.set_cons_zero, List.set_cons_succ]); (try go_wp2_with (go_at_call 71; refine (InsertRate_succ A1 n c1 k wc.heap.size (w.heap.size + 3) _ xs (newR d cc r) _ hk1 hsm N2.out.lt H.out OC.out VB2.out HNE.out).mono ?_; rintro e wd ⟨A9, c9, rfl, od, gd⟩; have ND := Lib.hid (N2.out.grow gd OC.out); have d0 := ND.out.c0; have d1 := ND.out.c1; have d2 := ND.out.c2; have d3 := ND.out.c3)); refine hK.out _ _ ?_ (fun hHeld => ?_); (focus exact ⟨d0, d1, d2, d3⟩); clear hK K; (try simp only [Act.put, List.setIfInBounds_toArray, List.set_cons_zero, List.set_cons_succ])
        (refine wpAnyH_take (i := 16) (v := ?_) rfl (by kernel_rfl) (by kernel_rfl) (by kernel_rfl) (fun _ _ _ h => h) (Or.inl ⟨by rfl, ?_⟩) (by assumption) ?_); rotate_left 1; (focus (intro w hSw; (try dsimp only at hSw); go_simp; (try with_reducible rfl))); (try simp only [Act.put, List.setIfInBounds_toArray, List.set_cons_zero, List.set_cons_succ])
        refine wpAnyH_done (by kernel_rfl) ?_ _
        clear d0 d1 d2 d3
        have OD := Lib.hid od
        clear od gd N1 N2 VB2 OC HNE ltw ltc N0
      all_goals
        (try simp only [List.getElem_toArray, List.getElem_cons_succ, List.getElem_cons_zero, List.setIfInBounds_toArray, List.set_cons_succ, List.set_cons_zero])
        obtain ⟨g9, cap, hv, hbg, hgl⟩ := OD.out.form (by omega)
        have hA9 : A9 = some ⟨g9, 0, none⟩ := by injection hv
        clear hv hgl
        subst hA9
        have y2 := ND.out.c2
        have zz2 : w.heap.size + 2 < wd.heap.size := World.block_lt_of_cell? wd _ y2
        obtain ⟨u9, hu9⟩ := own_cell (j := k * 5 + 3) OD.out (by omega)
        have f9 := OD.out.frozenAt (k * 5 + 3)
        have zg9 : g9 < wd.heap.size := World.block_lt_of_cell? wd _ hu9
        have HS := Lib.hid (OD.out.stored (k * 5 + 3) (.int .i64 (d - 1)))
        rw [raiseL_set HX.out] at HS
        have hkn2 : k < n + 1 := by omega
        have EF := Lib.hid (ND.out.row HS.out.2 hbg)
        have LF := Lib.hid (show RateL (wd.setCell ⟨g9, k * 5 + 3, none⟩ (.int .i64 (d - 1))) (some ⟨g9, 0, none⟩) (n + 1) (raiseL xs k r d cc) from ⟨by rw [raiseL_len hk, H.out], by omega, HWF.out k r HX.out, Rd.own HS.out.1⟩)
        have CB := Lib.hid (fun cx => areRates_any (some ⟨g9, 0, none⟩) (n + 1) cx (raiseL xs k r d cc) _ LF.out)
        cases hok : RatesOk (raiseL xs k r d cc)
        · have hRN := Lib.hid (show raiseAt xs k r d cc = none by rw [HR.out, hok]; rfl)
          rw [hok] at CB
          go_wp2_with (go_at_call 53; refine (CB.out _).mono ?_; rintro e wz ⟨rfl, hz⟩)
          go_ret2
          rw [hRN.out]
          exact RaisePost.nil (EF.out.trans hz)
        · have hRN := Lib.hid (show raiseAt xs k r d cc = some (raiseL xs k r d cc) by rw [HR.out, hok]; rfl)
          rw [hok] at CB
          go_wp2_with (go_at_call 53; refine (CB.out _).mono ?_; rintro e wz ⟨rfl, hz⟩)
          go_ret2
          rw [hRN.out]
          exact ⟨some ⟨g9, 0, none⟩, n + 1, _, rfl, own_low' (hz.own HS.out.1) (by omega), EF.out.trans hz⟩
end Go.Proofs.Ytkganlojknhajaa
