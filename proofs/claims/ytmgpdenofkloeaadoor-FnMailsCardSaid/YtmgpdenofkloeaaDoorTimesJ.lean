/- The least minutes: the program's and the reference's rows. -/
import Derived.Test.YtmgpdenofkloeaaDoorTimes
import Derived.Test.YtmgpdenofkloeaaDoorTimesI
namespace Go.Proofs.YtmgpdenofkloeaaDoor
open Go.RowKit
set_option linter.unusedVariables false
set_option linter.unusedSimpArgs false
attribute [local go_sem] ExtOf.cell

/-- A new row of n elements, wherever it lies. -/
def RowIs (T size n : Nat) (cs : List Value) (w : World) (e : Ending) (w' : World) : Prop :=
  ∃ g : Nat, w.heap.size ≤ g ∧ e = .returned (.slice (some ⟨g, 0, none⟩) n n) ∧ w'.ownsRow w.heap.size T size (.slice (some ⟨g, 0, none⟩) n n) n cs ∧ Ext w w'
theorem ints_set (l : List Int) (k : Nat) (v : Int) : (ints l).set k (.int .i64 v) = ints (l.set k v) := by simp [ints, List.map_set]
theorem row_set (T : Nat → Int) (k : Nat) (v : Int) : (ints (tlist T)).set k (.int .i64 v) = ints (tlist (upd T k v)) := by rw [ints_set, tlist_set]
theorem row_cell {w : World} {base g c : Nat} {T : Nat → Int} (h : w.ownsRow base 3 1 (.slice (some ⟨g, 0, none⟩) 10 c) 10 (ints (tlist T))) {k : Nat} (hk : k < 10) : w.cell? ⟨g, k, none⟩ = some (.int .i64 (T k)) := by
  rw [h.cellAt k (by omega)]
  exact ints_get (tlist_get T hk)
theorem negF_start (f m : Int) (h : m ≠ 10000) : negF (startF f m) = upd (fun _ => -1) f.toNat m := by
  unfold startF
  rw [negF_upd _ _ _ h]
  rfl
theorem rep_row (v : Int) : List.replicate 10 v = tlist (fun _ => v) := by rfl
theorem timesTo_bd {xs : List Mail} {f m : Int} (hg : ∀ x ∈ xs, MailGood x = true) (h1 : 0 ≤ m) (h2 : m ≤ 9999) (k o : Nat) : m ≤ timesTo xs f m k o ∧ timesTo xs f m k o ≤ 10000 :=
  times_bd (fun x hx => hg x (List.mem_of_mem_take hx)) h1 h2 o
theorem step_skip {T : Nat → Int} {x : Mail} (h : ¬ T x.From.toNat ≤ x.Leave) : stepF T x = T := by unfold stepF; rw [if_neg h]
theorem step_keep {T : Nat → Int} {x : Mail} (h : T x.From.toNat ≤ x.Leave) (h2 : T x.To.toNat ≤ x.Arrive) : stepF T x = T := by
  unfold stepF; rw [if_pos h, Int.min_eq_left h2]
  funext i; unfold upd; split
  · subst i; rfl
  · rfl
theorem step_new {T : Nat → Int} {x : Mail} (h : T x.From.toNat ≤ x.Leave) (h2 : x.Arrive < T x.To.toNat) : stepF T x = upd T x.To.toNat x.Arrive := by
  unfold stepF; rw [if_pos h, Int.min_eq_right (by omega)]
theorem step_min {T : Nat → Int} {x : Mail} (h : T x.From.toNat ≤ x.Leave) : stepF T x = upd T x.To.toNat (min (T x.To.toNat) x.Arrive) := by
  unfold stepF; rw [if_pos h]

theorem own_low {w : World} {b b' T size n : Nat} {v : Value} {cs : List Value} (h : w.ownsRow b T size v n cs) (hb : b' ≤ b) : w.ownsRow b' T size v n cs := by
  refine ⟨h.1, ?_⟩
  rcases h.2 with h2 | ⟨g, cap, cur, h1, h2, h3⟩
  · exact .inl h2
  · exact .inr ⟨g, cap, cur, h1, Nat.le_trans hb h2, h3⟩
theorem negT_in {v l : Int} (h0 : 0 ≤ v) (h1 : v ≤ 10000) (h2 : l ≤ 9999) : inB (negT v) 0 l = decide (v ≤ l) := by
  unfold negT inB
  split
  · rw [Bool.eq_iff_iff]; simp; omega
  · rw [Bool.eq_iff_iff]; simp; omega
set_option maxRecDepth 100000 in
set_option maxHeartbeats 1000000 in
theorem earliest_any (A : Option Addr) (n c : Nat) (xs : List Mail) (f m : Int) (w : World) (h : MailL w A n xs) (hok : MailsOk xs = true) (hf : inB f 0 9 = true) (hm : inB m 0 9999 = true) :
    Calls Tryd.prog 29 #[.slice A n c, .int .i64 f, .int .i64 m] w (RowIs 3 1 10 (ints (tlist (negF (times xs f m)))) w) := by
  obtain ⟨hf1, hf2⟩ := inB_iff.1 hf
  obtain ⟨hm1, hm2⟩ := inB_iff.1 hm
  obtain ⟨f, rfl⟩ : ∃ g : Nat, f = g := ⟨f.toNat, by omega⟩
  have hsm := h.small
  have HG := Lib.hid (MailsOk_good hok)
  have HT := Lib.hid (timesTo_bd (xs := xs) (f := (f : Int)) (m := m) HG.out hm1 hm2)
  clear hok hf hm
  have hf3 : f < 10 := by omega
  go_enter Tryd.func29, Tryd.ntmps29
  go_wp2_with (go_at_call 45; refine (Repeat_any w.heap.size (-1) _ (by simp [go_sem])).mono ?_; rintro e w1 ⟨rfl, o1, e1⟩; simp only [World.size_alloc] at o1; rw [rep_row] at o1; have g1 := row_cell o1 hf3; have f1 := o1.frozenAt f)
  have ho1 := (o1.stored f (.int .i64 m)).1
  rw [row_set, show upd (fun _ => -1) f m = negF (timesTo xs f m 0) by rw [timesTo_zero, negF_start _ _ (by omega)]; rfl] at ho1
  have hE1 : Ext w (w1.setCell ⟨w.heap.size + 1, f, none⟩ (.int .i64 m)) := (((Ext.refl w).alloc _).trans e1).set (by show w.heap.size ≤ w.heap.size + 1; omega) _
  have HO1 := Lib.hid ho1
  clear ho1 o1 g1 f1
  go_loopw [18] (fun i wr => ∃ k : Nat, k ≤ n ∧ i = .int .i64 k ∧ wr.ownsRow (w.heap.size + 1) 3 1 (.slice (some ⟨w.heap.size + 1, 0, none⟩) 10 10) 10 (ints (tlist (negF (timesTo xs f m k)))) ∧ Ext w wr) (fun i _ => n - (intOf i).toNat)
  case atStart => exact ⟨0, Nat.zero_le _, rfl, HO1.out, hE1⟩
  case round =>
    obtain ⟨k, hk, rfl, ho, he⟩ := hrel
    by_cases hlt : k < n
    · obtain ⟨b, off, x, rfl, hb, hx, q0, q1, q2, q3⟩ := (h.ext he).at_ hlt
      obtain ⟨⟨a1, a2⟩, ⟨a3, a4⟩, a5, ⟨a6, a7⟩, a8, a9⟩ := good_all (HG.out x (List.mem_of_getElem? hx.out))
      have HS := Lib.hid (timesTo_succ (f := (f : Int)) (m := m) hx.out)
      obtain ⟨l, p, q, r⟩ := x
      simp only at *
      obtain ⟨p, rfl⟩ : ∃ g : Nat, p = g := ⟨p.toNat, by omega⟩
      obtain ⟨q, rfl⟩ : ∃ g : Nat, q = g := ⟨q.toNat, by omega⟩
      have hp10 : p < 10 := by omega
      have hq10 : q < 10 := by omega
      have t1 := HT.out k p
      have t2 := HT.out k q
      have r1 := row_cell ho hp10
      have r2 := row_cell ho hq10
      have hlb : w.heap.size + 1 < wr.heap.size := (ho.lt _ rfl).2
      have hlb2 : w.heap.size < wr.heap.size := by omega
      have HO := Lib.hid ho
      clear ho
      generalize hT : timesTo xs (f : Int) m k = T at *
      have HT0 := Lib.hid hT
      clear hT a5
      have hin := Lib.hid (negT_in (l := l) (by omega : 0 ≤ T p) (by omega) (by omega))
      unfold negF at r1 r2
      by_cases c1 : T p ≤ l
      · by_cases c2 : r < T q
        · have hs := Lib.hid (HS.out.trans (step_new (T := T) (x := ⟨l, p, q, r⟩) c1 (by simp; omega)))
          have hne : r ≠ 10000 := by omega
          have hN := Lib.hid (negF_upd T q r hne)
          clear hne
          have c4 : decide (r < negT (T q)) = true ∨ decide (negT (T q) < 0) = true := by
            unfold negT; split
            · right; simp
            · left; simpa using c2
          generalize negT (T q) = v at *
          generalize negT (T p) = u at *
          have C := Lib.hid (inRange_any u 0 l)
          rw [hin.out, decide_eq_true c1] at C
          by_cases c5 : v < 0
          · have c6 : decide (v < 0) = true := by simpa using c5
            clear c4
            go_wp2
            (refine wp_region_ext_lit (by kernel_rfl) (by kernel_rfl) ?_; (repeat (go_big_quiet_step (((go_at_call 30; exact ext_call_same (C.out _)))))); refine wpQuiet_nil ?_; rintro wq ⟨⟨_, heq⟩, rfl⟩; (try dsimp only))
            have OQ := Lib.hid ((((Ext.refl _).alloc _).trans heq).own HO.out)
            have hc := ((Ext.refl _).trans heq).cells
            obtain ⟨uq, gq⟩ := own_cell OQ.out (show q < 10 * 1 by omega)
            have fq := OQ.out.frozenAt q
            have hzq : wr.heap.size + 1 ≤ wq.heap.size := by have := heq.size; simpa using this
            go_wp2
            go_roundw
            case rel =>
              have ho2 := (OQ.out.stored q (.int .i64 r)).1
              rw [row_set, ← hN.out] at ho2
              exact ⟨k + 1, by omega, by go_num, by rw [hs.out]; exact ho2, ((he.alloc _).trans heq).set (by show w.heap.size ≤ w.heap.size + 1; omega) _⟩
            case measure => simp [intOf]; omega
          · have c6 : decide (v < 0) = false := by simpa using c5
            have c7 : decide (r < v) = true := by rcases c4 with h | h; exact h; rw [h] at c6; cases c6
            clear c4
            go_wp2
            (refine wp_region_ext_lit (by kernel_rfl) (by kernel_rfl) ?_; (repeat (go_big_quiet_step (((go_at_call 30; exact ext_call_same (C.out _)))))); refine wpQuiet_nil ?_; rintro wq ⟨⟨_, heq⟩, rfl⟩; (try dsimp only))
            have OQ := Lib.hid ((((Ext.refl _).alloc _).trans heq).own HO.out)
            have hc := ((Ext.refl _).trans heq).cells
            obtain ⟨uq, gq⟩ := own_cell OQ.out (show q < 10 * 1 by omega)
            have fq := OQ.out.frozenAt q
            have hzq : wr.heap.size + 1 ≤ wq.heap.size := by have := heq.size; simpa using this
            go_wp2
            go_roundw
            case rel =>
              have ho2 := (OQ.out.stored q (.int .i64 r)).1
              rw [row_set, ← hN.out] at ho2
              exact ⟨k + 1, by omega, by go_num, by rw [hs.out]; exact ho2, ((he.alloc _).trans heq).set (by show w.heap.size ≤ w.heap.size + 1; omega) _⟩
            case measure => simp [intOf]; omega
        · have hs := Lib.hid (HS.out.trans (step_keep (T := T) (x := ⟨l, p, q, r⟩) c1 (by simp; omega)))
          have hn : negT (T q) = T q := by unfold negT; rw [if_neg (by omega)]
          rw [hn] at r2
          clear hn
          have c3 : decide (T q < 0) = false := by simp; omega
          have c4 : decide (r < T q) = false := by simp; omega
          generalize negT (T p) = u at *
          have C := Lib.hid (inRange_any u 0 l)
          rw [hin.out, decide_eq_true c1] at C
          go_wp2
          (refine wp_region_ext_lit (by kernel_rfl) (by kernel_rfl) ?_; (repeat (go_big_quiet_step (((go_at_call 30; exact ext_call_same (C.out _)))))); refine wpQuiet_nil ?_; rintro wq ⟨⟨_, heq⟩, rfl⟩; (try dsimp only))
          go_wp2
          go_roundw
          case rel => exact ⟨k + 1, by omega, by go_num, by rw [hs.out]; exact (((Ext.refl _).alloc _).trans heq).own HO.out, (he.alloc _).trans heq⟩
          case measure => simp [intOf]; omega
      · have hs := Lib.hid (HS.out.trans (step_skip (T := T) (x := ⟨l, p, q, r⟩) c1))
        generalize negT (T p) = u at *
        have C := Lib.hid (inRange_any u 0 l)
        rw [hin.out, decide_eq_false c1] at C
        go_wp2
        (refine wp_region_ext_lit (by kernel_rfl) (by kernel_rfl) ?_; (repeat (go_big_quiet_step (((go_at_call 30; exact ext_call_same (C.out _)))))); refine wpQuiet_nil ?_; rintro wq ⟨⟨_, heq⟩, rfl⟩; (try dsimp only))
        go_wp2
        go_roundw
        case rel => exact ⟨k + 1, by omega, by go_num, by rw [hs.out]; exact (((Ext.refl _).alloc _).trans heq).own HO.out, (he.alloc _).trans heq⟩
        case measure => simp [intOf]; omega
    · obtain rfl : n = k := by omega
      have hend := Lib.hid (timesTo_end (f := (f : Int)) (m := m) (Nat.le_of_eq h.len))
      have HO := Lib.hid ho
      clear ho
      go_wp2
      go_ret
      exact ⟨w.heap.size + 1, by omega, rfl, by rw [← hend.out]; exact own_low HO.out (by omega), he⟩
end Go.Proofs.YtmgpdenofkloeaaDoor
