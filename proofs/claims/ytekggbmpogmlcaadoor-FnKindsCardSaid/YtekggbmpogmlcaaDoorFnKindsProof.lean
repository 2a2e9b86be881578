/-
  'FnKinds' answers true for every input, and leaves its argument as it was.
  Conditions: none beyond the given row's own.
-/
import Derived.Shelf.Lays
import Derived.Shelf.LaysM
import Derived.Shelf.Strings.OnBuilder
import Derived.Shelf.Strconv.Itoa3
import Derived.Test.YtekggbmpogmlcaaDoorProg
import Derived.Test.YtekggbmpogmlcaaDoorQuiet
import Derived.Lib.SmallJoins
import Derived.IntWalk
import Derived.Test.YtekggbmpogmlcaaDoorFreeI
import Derived.Test.YtekggbmpogmlcaaDoorTabLaw1
import Derived.Lib.Join
import Derived.Maps.AppendAt
import Derived.Test.YtekggbmpogmlcaaDoorFirstK
import Derived.Test.YtekggbmpogmlcaaDoorOpenI
import Derived.Deep.RegionHeld3
import Derived.Test.YtekggbmpogmlcaaDoorApp
import Derived.Test.YtekggbmpogmlcaaDoorNeedS
import Derived.Laws.Bits64b
import Derived.Test.YtekggbmpogmlcaaDoorOpen
import Derived.Test.YtekggbmpogmlcaaDoorAddK
import Derived.Test.YtekggbmpogmlcaaDoorAddS
import Derived.Deep.CutBlock
import Derived.Deep.DeepCutAuto
import Derived.BigRegion
import Derived.Test.YtekggbmpogmlcaaDoorCount
import Derived.Test.YtekggbmpogmlcaaDoorCards
import Derived.Test.YtekggbmpogmlcaaDoorTie
import Derived.WalkKit
import Derived.ProofKit
import Derived.OpenShut
import Derived.Below
import Derived.Deep.DeepHandedRow
import Derived.Lib.LaidTab
namespace Go.Proofs
open Go.Shelf
def Tryd.lays156_ren : Go.Shelf.Ren := ⟨fun | 156 => 51 | 165 => 62 | 166 => 63 | 169 => 64 | 240 => 68 | 241 => 69 | 276 => 74 | 277 => 75 | n => n, fun | 31 => 73 | 9 => 9 | 3 => 3 | 4 => 4 | 0 => 0 | 20 => 20 | 72 => 85 | 76 => 89 | 70 => 83 | 37 => 22 | 75 => 88 | 127 => 94 | 164 => 101 | 5 => 5 | 80 => 91 | n => n, fun | n => n⟩
theorem Tryd.lays156 : Go.Proofs.Lays.n156 Tryd.prog Tryd.lays156_ren := {
  mixed := by kernel_rfl
  f156 := Tryd.func51.trans (congrArg some (by kernel_rfl))
  f165 := Tryd.func62.trans (congrArg some (by kernel_rfl))
  f166 := Tryd.func63.trans (congrArg some (by kernel_rfl))
  f169 := Tryd.func64.trans (congrArg some (by kernel_rfl))
  f240 := Tryd.func68.trans (congrArg some (by kernel_rfl))
  f241 := Tryd.func69.trans (congrArg some (by kernel_rfl))
  f276 := Tryd.func74.trans (congrArg some (by kernel_rfl))
  f277 := Tryd.func75.trans (congrArg some (by kernel_rfl))
  t0 := Tryd.underlying0
  a0 := Tryd.isAgg0
  z0 := Tryd.sizeOf0
  v0 := Tryd.zeroValue0
  t3 := Tryd.underlying3
  a3 := Tryd.isAgg3
  z3 := Tryd.sizeOf3
  v3 := Tryd.zeroValue3
  t4 := Tryd.underlying4
  a4 := Tryd.isAgg4
  z4 := Tryd.sizeOf4
  v4 := Tryd.zeroValue4
  t9 := Tryd.underlying9
  a9 := Tryd.isAgg9
  z9 := Tryd.sizeOf9
  v9 := Tryd.zeroValue9
  t20 := Tryd.underlying20
  a20 := Tryd.isAgg20
  z20 := Tryd.sizeOf20
  v20 := Tryd.zeroValue20
  t31 := Tryd.underlying73
  a31 := Tryd.isAgg73
  z31 := Tryd.sizeOf73
  v31 := Tryd.zeroValue73
  t37 := Tryd.underlying22
  a37 := Tryd.isAgg22
  z37 := Tryd.sizeOf22
  v37 := Tryd.zeroValue22
  t70 := Tryd.underlying83
  a70 := Tryd.isAgg83
  z70 := Tryd.sizeOf83
  v70 := Tryd.zeroValue83
  t72 := Tryd.underlying85
  a72 := Tryd.isAgg85
  z72 := Tryd.sizeOf85
  v72 := Tryd.zeroValue85
  t75 := Tryd.underlying88
  a75 := Tryd.isAgg88
  z75 := Tryd.sizeOf88
  v75 := Tryd.zeroValue88
  t76 := Tryd.underlying89
  a76 := Tryd.isAgg89
  z76 := Tryd.sizeOf89
  v76 := Tryd.zeroValue89
  t127 := Tryd.underlying94
  a127 := Tryd.isAgg94
  z127 := Tryd.sizeOf94
  v127 := Tryd.zeroValue94
  t164 := Tryd.underlying101
  a164 := Tryd.isAgg101
  z164 := Tryd.sizeOf101
  v164 := Tryd.zeroValue101 }
theorem Tryd.Builder_Extra_156 : Builder.Extra Tryd.prog Tryd.lays156_ren := {
  sizeBuilder := by kernel_rfl
  liesBuilder := by kernel_rfl
  t5 := Tryd.underlying5
  a5 := Tryd.isAgg5
  z5 := Tryd.sizeOf5
  v5 := Tryd.zeroValue5
  infoByte := by kernel_rfl
  cellsByte := by kernel_rfl
  sizeByte := by kernel_rfl
  neB5 := by decide }
open Go.RowKit in
/-- strings.Join: "Join concatenates the elements of its first argument to create a single string. The separator string sep is placed between elements in the resulting string.": HOWEVER MANY ELEMENTS. Below the heap's end the world is as it was. (LAID: no walk: one application.) -/
theorem Tryd.strings_Join (bk o c : Nat) (xs : List ByteArray) (sep : ByteArray) (w : World) (hcells : ∀ (j : Nat) x, xs[j]? = some x → w.cell? ⟨bk, o + j, none⟩ = some (.string x)) (hbk : bk < w.heap.size) (hN : xs.length ≤ 140737488355328) (hcap : xs.length ≤ c) (hlen : (Lib.join (xs.map (·.data.toList)) sep.data.toList).length ≤ 140737488355328) :
    Calls Tryd.prog 51 #[.slice (some ⟨bk, o, none⟩) xs.length c, .string sep] w fun e w' => e = .returned (.string ⟨(Lib.join (xs.map (·.data.toList)) sep.data.toList).toArray⟩) ∧ Below w.heap.size w w' := Any.strings_Join Tryd.lays156 Tryd.Builder_Extra_156 bk o c xs sep w hcells hbk hN hcap hlen
def Tryd.laysM171_ren : Go.Shelf.Ren := ⟨fun | 171 => 50 | 243 => 61 | 246 => 67 | 283 => 70 | 284 => 71 | 285 => 72 | 286 => 73 | 129 => 77 | 317 => 76 | 318 => 78 | 319 => 79 | 320 => 80 | 337 => 81 | 338 => 82 | n => n, fun | 3 => 3 | 9 => 9 | 2 => 2 | 4 => 4 | 171 => 96 | 0 => 0 | 53 => 55 | 37 => 22 | 5 => 5 | 173 => 99 | 212 => 105 | 51 => 106 | 20 => 20 | 213 => 107 | 46 => 95 | 232 => 110 | 233 => 111 | n => n, fun | 17 => 0 | 18 => 2 | 19 => 3 | n => n⟩
theorem Tryd.laysM171 : Go.Proofs.LaysM.n171 Tryd.prog Tryd.laysM171_ren := {
  mixed := by kernel_rfl
  f129 := Tryd.func77.trans (congrArg some (by kernel_rfl))
  f171 := Tryd.func50.trans (congrArg some (by kernel_rfl))
  f243 := Tryd.func61.trans (congrArg some (by kernel_rfl))
  f246 := Tryd.func67.trans (congrArg some (by kernel_rfl))
  f283 := Tryd.func70.trans (congrArg some (by kernel_rfl))
  f284 := Tryd.func71.trans (congrArg some (by kernel_rfl))
  f285 := Tryd.func72.trans (congrArg some (by kernel_rfl))
  f286 := Tryd.func73.trans (congrArg some (by kernel_rfl))
  f317 := Tryd.func76.trans (congrArg some (by kernel_rfl))
  f318 := Tryd.func78.trans (congrArg some (by kernel_rfl))
  f319 := Tryd.func79.trans (congrArg some (by kernel_rfl))
  f320 := Tryd.func80.trans (congrArg some (by kernel_rfl))
  f337 := Tryd.func81.trans (congrArg some (by kernel_rfl))
  f338 := Tryd.func82.trans (congrArg some (by kernel_rfl))
  t0 := Tryd.underlying0
  a0 := Tryd.isAgg0
  z0 := Tryd.sizeOf0
  v0 := Tryd.zeroValue0
  t2 := Tryd.underlying2
  a2 := Tryd.isAgg2
  z2 := Tryd.sizeOf2
  v2 := Tryd.zeroValue2
  t3 := Tryd.underlying3
  a3 := Tryd.isAgg3
  z3 := Tryd.sizeOf3
  v3 := Tryd.zeroValue3
  t4 := Tryd.underlying4
  a4 := Tryd.isAgg4
  z4 := Tryd.sizeOf4
  v4 := Tryd.zeroValue4
  t5 := Tryd.underlying5
  a5 := Tryd.isAgg5
  z5 := Tryd.sizeOf5
  v5 := Tryd.zeroValue5
  t9 := Tryd.underlying9
  a9 := Tryd.isAgg9
  z9 := Tryd.sizeOf9
  v9 := Tryd.zeroValue9
  t20 := Tryd.underlying20
  a20 := Tryd.isAgg20
  z20 := Tryd.sizeOf20
  v20 := Tryd.zeroValue20
  t37 := Tryd.underlying22
  a37 := Tryd.isAgg22
  z37 := Tryd.sizeOf22
  v37 := Tryd.zeroValue22
  t46 := Tryd.underlying95
  a46 := Tryd.isAgg95
  z46 := Tryd.sizeOf95
  v46 := Tryd.zeroValue95
  t51 := Tryd.underlying106
  a51 := Tryd.isAgg106
  z51 := Tryd.sizeOf106
  v51 := Tryd.zeroValue106
  t53 := Tryd.underlying55
  a53 := Tryd.isAgg55
  z53 := Tryd.sizeOf55
  v53 := Tryd.zeroValue55
  t171 := Tryd.underlying96
  a171 := Tryd.isAgg96
  z171 := Tryd.sizeOf96
  v171 := Tryd.zeroValue96
  t173 := Tryd.underlying99
  a173 := Tryd.isAgg99
  z173 := Tryd.sizeOf99
  v173 := Tryd.zeroValue99
  t212 := Tryd.underlying105
  a212 := Tryd.isAgg105
  z212 := Tryd.sizeOf105
  v212 := Tryd.zeroValue105
  t213 := Tryd.underlying107
  a213 := Tryd.isAgg107
  z213 := Tryd.sizeOf107
  t232 := Tryd.underlying110
  a232 := Tryd.isAgg110
  z232 := Tryd.sizeOf110
  v232 := Tryd.zeroValue110
  t233 := Tryd.underlying111
  a233 := Tryd.isAgg111
  z233 := Tryd.sizeOf111
  v233 := Tryd.zeroValue111
  g17 := by kernel_rfl
  g18 := by kernel_rfl
  g19 := by kernel_rfl
  i0 := by kernel_rfl
  i2 := by kernel_rfl
  i3 := by kernel_rfl
  i4 := by kernel_rfl
  i5 := by kernel_rfl
  i9 := by kernel_rfl
  i20 := by kernel_rfl
  i37 := by kernel_rfl
  i46 := by kernel_rfl
  i51 := by kernel_rfl
  i53 := by kernel_rfl
  i171 := by kernel_rfl
  i173 := by kernel_rfl
  i212 := by kernel_rfl
  i232 := by kernel_rfl
  i233 := by kernel_rfl
  m17 := by kernel_rfl
  m18 := by kernel_rfl
  m19 := by kernel_rfl }
open Go.RowKit Go.Sort Go.Lib in
/-- strconv.Itoa: "Itoa is equivalent to FormatInt(int64(i), 10).": i's DECIMAL NUMERAL ('Lib.itoa': a '-' where i is negative, then the digits), FOR EVERY int. The world behind the call: the world before it, new blocks behind the heap (the library's 'var a [24]byte'), draws. (LAID: no walk: one application.) -/
theorem Tryd.strconv_Itoa (n : Int) (h0 : -9223372036854775808 ≤ n) (h1 : n ≤ 9223372036854775807) (w : World) (htab : Lib.TabIs Tryd.prog w "internal/strconv.uint64pow10" .u64 Lib.pow10Tab) :
    Calls Tryd.prog 50 #[.int .i64 n] w fun e w' => e = .returned (.string ⟨(Lib.itoa n).toArray⟩) ∧ ∃ k os, w' = grow (w.drewN k) os := Any.strconv_Itoa Tryd.laysM171 n h0 h1 w htab
end Go.Proofs

namespace Go.Proofs.YtekggbmpogmlcaaDoor
open Go.RowKit
set_option linter.unusedVariables false
set_option linter.unusedSimpArgs false
attribute [local go_sem] ExtOf.cell

/-- The text of a number. -/
def numT (n : Int) : ByteArray := ⟨(Lib.itoa n).toArray⟩
/-- The library's table of powers of ten is there. -/
def TabOkW (w : World) : Prop := Lib.TabIs Tryd.prog w "internal/strconv.uint64pow10" .u64 Lib.pow10Tab
theorem gPow : Tryd.prog.globalNamed "internal/strconv.uint64pow10" = some 0 := by kernel_rfl
theorem TabOkW.ext {w w' : World} (h : TabOkW w) (he : Ext w w') : TabOkW w' := Go.Joins.var_stays gPow h he.below (Nat.le_refl _)
theorem ext_growW (w : World) (k : Nat) (os : Array Obj) : Ext w (Go.Sort.grow (w.drewN k) os) := by
  refine ⟨rfl, rfl, rfl, by simp [Go.Sort.grow, World.drewN], fun i hi => ?_⟩
  show (w.heap ++ os)[i]? = w.heap[i]?
  rw [Array.getElem?_append_left hi]
theorem Itoa_any (n : Int) (w : World) (h0 : -9223372036854775808 ≤ n) (h1 : n ≤ 9223372036854775807) (h : TabOkW w) :
    Calls Tryd.prog 50 #[.int .i64 n] w fun e w' => e = .returned (.string (numT n)) ∧ Ext w w' := by
  refine (Tryd.strconv_Itoa n h0 h1 w h).mono ?_
  rintro e w' ⟨rfl, k, os, rfl⟩
  exact ⟨rfl, ext_growW w k os⟩
theorem itoa_call {w : World} (h : TabOkW w) {e : ExtOf w} {n : Int} (h0 : -9223372036854775808 ≤ n) (h1 : n ≤ 9223372036854775807) :
    Calls Tryd.prog 50 #[.int .i64 n] e.val fun x w'' => x = .returned (.string (numT n)) ∧ ∃ e' : ExtOf w, w'' = e'.val :=
  ext_call (Itoa_any n e.val h0 h1 (h.ext e.ext))
theorem numT_small {n : Int} (h0 : 0 ≤ n) (h : n < 10) : numT n = ⟨#[UInt8.ofNat (48 + n.toNat)]⟩ := by
  unfold numT Lib.itoa
  rw [if_neg (by omega), Lib.decDigits_one (by omega)]
theorem numT_big {n : Int} (h : 10 ≤ n) : numT n = numT (n / 10) ++ (⟨#[UInt8.ofNat (48 + (n % 10).toNat)]⟩ : ByteArray) := by
  have e : Lib.decDigits n.toNat = Lib.decDigits (n / 10).toNat ++ [UInt8.ofNat (48 + (n % 10).toNat)] := by
    rw [Lib.decDigits, dif_neg (by omega), show n.toNat / 10 = (n / 10).toNat by omega, show n.toNat % 10 = (n % 10).toNat by omega]
  unfold numT Lib.itoa
  rw [if_neg (by omega), if_neg (by omega), e]
  apply ByteArray.ext
  simp [ByteArray.data_append]
theorem decDigits_len : ∀ (k n : Nat), n ≤ k → (Lib.decDigits n).length ≤ n + 1 := by
  intro k
  induction k with
  | zero => intro n h; obtain rfl : n = 0 := by omega
            rw [Lib.decDigits_one (by omega)]; simp
  | succ k ih =>
    intro n h
    by_cases h10 : n < 10
    · rw [Lib.decDigits_one h10]; simp
    · rw [Lib.decDigits, dif_neg h10, List.length_append]
      have := ih (n / 10) (by omega)
      simp only [List.length_cons, List.length_nil]
      omega
theorem numT_size {n : Int} (h0 : 0 ≤ n) (h : n ≤ 1000000000) : (numT n).size ≤ 1000000001 := by
  have := decDigits_len _ n.toNat (Nat.le_refl _)
  have e : (numT n).size = (Lib.decDigits n.toNat).length := by
    unfold numT Lib.itoa
    rw [if_neg (by omega)]
    simp [ByteArray.size]
  rw [e]
  omega
theorem ret_str {a b : ByteArray} (h : a = b) : Ending.returned (.string a) = .returned (.string b) := by rw [h]
set_option maxHeartbeats 400000 in
theorem l1Num_any : ∀ (k : Nat) (n : Int) (w : World), 0 ≤ n → n ≤ k → n ≤ 1000000000 →
    Calls Tryd.prog 34 #[.int .i64 n] w fun e w' => e = .returned (.string (numT n)) ∧ Ext w w' := by
  intro k
  induction k with
  | zero =>
    intro n w h0 hk _
    obtain rfl : n = 0 := by omega
    go_enter Tryd.func34, Tryd.ntmps34
    go_wp2_with fail
    go_ret
    exact ⟨ret_str (by rw [numT_small (by omega) (by omega)]; rfl), Ext.refl _⟩
  | succ k ih =>
    intro n w h0 hk hb
    by_cases hs : n < 10
    · obtain rfl | rfl | rfl | rfl | rfl | rfl | rfl | rfl | rfl | rfl : n = 0 ∨ n = 1 ∨ n = 2 ∨ n = 3 ∨ n = 4 ∨ n = 5 ∨ n = 6 ∨ n = 7 ∨ n = 8 ∨ n = 9 := by omega
      all_goals
        go_enter Tryd.func34, Tryd.ntmps34
        go_wp2_with fail
        go_ret
        exact ⟨ret_str (by rw [numT_small (by omega) (by omega)]; rfl), Ext.refl _⟩
    · have hN := Lib.hid (numT_big (n := n) (by omega))
      have hd0 : decide (n < 0) = false := by simp; omega
      have hd1 : decide (n < 10) = false := by simp; omega
      have IH := Lib.hid (fun (w' : World) => ih (n / 10) w' (by omega) (by omega) (by omega))
      have t1 : n.tdiv 10 = n / 10 := Int.tdiv_eq_ediv_of_nonneg h0
      have t2 : n.tmod 10 = n % 10 := Int.tmod_eq_emod_of_nonneg h0
      have hq : 0 ≤ n / 10 ∧ n / 10 ≤ 1000000000 := by omega
      have hm : 0 ≤ n % 10 ∧ n % 10 < 10 := by omega
      generalize n / 10 = q at *
      generalize hr : n % 10 = r at *
      have hz : (numT q).size ≤ 1000000001 := numT_size hq.1 hq.2
      have w1 : IntKind.i64.wrap q = q := IntWalk.i64_in _ (by omega)
      clear hr
      obtain ⟨q1, q2⟩ := hq
      obtain ⟨m1, m2⟩ := hm
      obtain rfl | rfl | rfl | rfl | rfl | rfl | rfl | rfl | rfl | rfl : r = 0 ∨ r = 1 ∨ r = 2 ∨ r = 3 ∨ r = 4 ∨ r = 5 ∨ r = 6 ∨ r = 7 ∨ r = 8 ∨ r = 9 := by omega
      all_goals
        go_enter Tryd.func34, Tryd.ntmps34
        go_wp2_with fail
        (refine wp_region_ext_lit (by kernel_rfl) (by kernel_rfl) ?_; (repeat (go_big_quiet_step (((go_at_call 34; exact ext_call (IH.out _)))))); refine wpQuiet_nil ?_; rintro wq ⟨⟨_, heq⟩, rfl⟩; (try dsimp only))
        go_wp2_with fail
        go_ret
        exact ⟨ret_str (by rw [hN.out]; rfl), heq⟩
end Go.Proofs.YtekggbmpogmlcaaDoor

namespace Go.Proofs.YtekggbmpogmlcaaDoor
open Go.RowKit
set_option linter.unusedVariables false
set_option linter.unusedSimpArgs false
attribute [local go_sem] ExtOf.cell

theorem KT_get {ss ks : List Int} (h : KindOk ss ks = true) {k : Nat} {s v : Int} (h1 : ss[k]? = some s) (h2 : ks[k]? = some v) : 0 ≤ v ∧ v ≤ s - 1 := by
  simp only [KindOk, Bool.and_eq_true, decide_eq_true_eq, List.all_eq_true] at h
  have := h.2 _ (List.mem_of_getElem? (zip_get h2 h1))
  simp only [zbad, Bool.not_not] at this
  exact inB_iff.1 this
theorem KT_small {ss ks : List Int} (h : KindOk ss ks = true) (hs : ∀ s ∈ ss, 1 ≤ s ∧ s ≤ 5) : ∀ v ∈ ks, 0 ≤ v ∧ v < 10 := by
  intro v hv
  obtain ⟨k, hk, rfl⟩ := List.getElem_of_mem hv
  have hl : ks.length = ss.length := by simp only [KindOk, Bool.and_eq_true, decide_eq_true_eq] at h; exact h.1
  have h1 : ss[k]? = some ss[k] := List.getElem?_eq_getElem (by omega)
  have := KT_get h h1 (List.getElem?_eq_getElem hk)
  have := hs _ (List.mem_of_getElem? h1)
  omega
/-- Numbers with a bar between them. -/
def joinB (ks : List Int) : ByteArray := ⟨(Lib.join (ks.map fun v => (numT v).data.toList) [45]).toArray⟩
theorem joinB_nil : joinB [] = ⟨#[]⟩ := rfl
theorem joinB_one (v : Int) : joinB [v] = (⟨#[]⟩ : ByteArray) ++ numT v := by
  apply ByteArray.ext
  apply Array.toList_inj.1
  simp only [joinB, List.map_cons, List.map_nil, Lib.join_one]
  rw [ByteArray.data_append, Array.toList_append]
  rfl
theorem joinB_snoc {ks : List Int} (h : ks ≠ []) (v : Int) : joinB (ks ++ [v]) = (joinB ks ++ (⟨#[45]⟩ : ByteArray)) ++ numT v := by
  cases ks with
  | nil => exact absurd rfl h
  | cons a t =>
    apply ByteArray.ext
    apply Array.toList_inj.1
    rw [ByteArray.data_append, Array.toList_append, ByteArray.data_append, Array.toList_append]
    simp only [joinB, List.cons_append, List.map_cons, List.map_append, List.map_nil, Lib.join_cons, Lib.joinTail]
    simp [List.append_assoc]
theorem lens_digits : ∀ (ks : List Int), (∀ v ∈ ks, 0 ≤ v ∧ v < 10) → Lib.lens (ks.map fun v => (numT v).data.toList) = ks.length
  | [], _ => rfl
  | a :: t, h => by
    have ih := lens_digits t fun v hv => h v (List.mem_cons_of_mem _ hv)
    obtain ⟨h0, h1⟩ := h a (List.mem_cons_self)
    simp only [Lib.lens, List.map_cons, List.sum_cons, List.length_cons] at ih ⊢
    rw [ih, numT_small h0 h1]
    simp; omega
theorem joinB_len (ks : List Int) (h : ∀ v ∈ ks, 0 ≤ v ∧ v < 10) : (Lib.join (ks.map fun v => (numT v).data.toList) [45]).length ≤ 2 * ks.length := by
  cases ks with
  | nil => simp [Lib.join_nil]
  | cons a t =>
    have h2 := lens_digits t fun v hv => h v (List.mem_cons_of_mem _ hv)
    obtain ⟨h0, h1⟩ := h a (List.mem_cons_self)
    rw [List.map_cons, Lib.join_cons, List.length_append, Lib.joinTail_length, h2, numT_small h0 h1]
    simp; omega
theorem joinB_size (ks : List Int) (h : ∀ v ∈ ks, 0 ≤ v ∧ v < 10) : (joinB ks).size ≤ 2 * ks.length := by
  have := joinB_len ks h
  simpa [joinB, ByteArray.size] using this
def kindT (ss : List Int) (bs : List Ban) (ks : List Int) : ByteArray := if freeOf bs ks then joinB ks else joinB ks ++ (⟨#[33]⟩ : ByteArray)
def ktP (ss : List Int) (bs : List Ban) (ks : List Int) : Bool := TabOk ss bs && KindOk ss ks
def ktT (ss : List Int) (bs : List Ban) (ks : List Int) : ByteArray := if ktP ss bs ks then kindT ss bs ks else ⟨#[]⟩

set_option maxRecDepth 100000 in
set_option maxHeartbeats 2000000 in
theorem KindTextS_any (A : Option Addr) (n c : Nat) (B : Option Addr) (m d : Nat) (ss : List Int) (bs : List Ban) (K : Option Addr) (l e : Nat) (ks : List Int) (w : World) (h : TabL w A n B m ss bs) (hl : ks.length = l) (hl2 : l ≤ 1048576) (hk : Rd w K l 1 (ints ks)) :
    Calls Tryd.prog 19 #[.agg #[.slice A n c, .slice B m d], .slice K l e] w fun e w' => e = .returned (.tuple #[.string (ktT ss bs ks), .bool (ktP ss bs ks)]) ∧ Ext w w' := by
  have eW := (Ext.refl w).alloc (.cells #[.slice A n c, .slice B m d] 27)
  have C := Lib.hid (l6Good_any A n c B m d ss bs _ (h.ext eW))
  cases h1 : TabOk ss bs
  · have v1 : ktP ss bs ks = false := by simp [ktP, h1]
    have v2 : ktT ss bs ks = ⟨#[]⟩ := by simp [ktT, v1]
    rw [v1, v2]
    go_enter Tryd.func19, Tryd.ntmps19
    go_wp2_with (go_at_call 23; refine C.out.mono ?_; rintro e we ⟨rfl, he⟩; rw [h1])
    go_ret2
    exact ⟨rfl, eW.trans he⟩
  obtain ⟨⟨t1, t2⟩, t3, t4, t5⟩ := TabOk_all h1
  have D := Lib.hid (fun (w' : World) (he : Ext w w') => l6Kind_any A n c B m d ss bs K l e ks w' (h.ext he) t4 hl hl2 (hk.ext he))
  have hn := h.sl
  cases h2 : KindOk ss ks
  · have v1 : ktP ss bs ks = false := by simp [ktP, h2]
    have v2 : ktT ss bs ks = ⟨#[]⟩ := by simp [ktT, v1]
    rw [v1, v2]
    clear t4 t5 hk
    go_enter Tryd.func19, Tryd.ntmps19
    go_wp2_with (first | (go_at_call 23; refine C.out.mono ?_; rintro e we ⟨rfl, he⟩; rw [h1]; have p0 := he.cell1 (new_cell w #[.slice A n c, .slice B m d] 27 0 _ rfl); have p1 := he.cell1 (new_cell w #[.slice A n c, .slice B m d] 27 1 _ rfl)) | (go_at_call 30; refine (D.out _ (eW.trans he)).mono ?_; rintro e wf ⟨rfl, hf⟩; rw [h2]))
    go_ret2
    exact ⟨rfl, eW.trans (he.trans hf)⟩
  · have hln : l = n := by
      have : ks.length = ss.length := by
        simp only [KindOk, Bool.and_eq_true, decide_eq_true_eq] at h2; exact h2.1
      omega
    subst hln
    have hl5 : l ≤ 5 := by omega
    have HV := Lib.hid (KT_small h2 t4)
    have F := Lib.hid (fun (w' : World) (he : Ext w w') => l6Free_any A l c B m d ss bs K e ks w' (h.ext he) t5 hl (hk.ext he))
    have v1 : ktP ss bs ks = true := by simp [ktP, h1, h2]
    have v2 : ktT ss bs ks = kindT ss bs ks := by simp [ktT, v1]
    rw [v1, v2]
    have HK := Lib.hid hk
    have HL := Lib.hid hl
    clear t1 t2 t4 t5 hk hl
    go_enter Tryd.func19, Tryd.ntmps19
    go_wp2_with (first | (go_at_call 23; refine C.out.mono ?_; rintro e we ⟨rfl, he⟩; rw [h1]; have p0 := he.cell1 (new_cell w #[.slice A l c, .slice B m d] 27 0 _ rfl); have p1 := he.cell1 (new_cell w #[.slice A l c, .slice B m d] 27 1 _ rfl)) | (go_at_call 30; refine (D.out _ (eW.trans he)).mono ?_; rintro e wf ⟨rfl, hf⟩; rw [h2]; have q0 := hf.cell1 p0; have q1 := hf.cell1 p1))
    have E0 := eW.trans (he.trans hf)
    go_loopw [6, 7] (fun s i wr => ∃ k : Nat, k ≤ l ∧ i = .int .i64 k ∧ s = .string (joinB (ks.take k)) ∧ Ext wf wr) (fun _ i _ => l - (intOf i).toNat)
    case atStart => exact ⟨0, Nat.zero_le _, rfl, rfl, Ext.refl _⟩
    case round =>
      obtain ⟨k, hkl, rfl, rfl, hr⟩ := hrel
      have r0 := hr.cell1 q0
      have r1 := hr.cell1 q1
      have ER := Lib.hid (E0.trans hr)
      have hsz : (joinB (ks.take k)).size ≤ 10 := Nat.le_trans (joinB_size _ fun v hv => HV.out v (List.mem_of_mem_take hv)) (by rw [List.length_take]; omega)
      by_cases hlt : k < l
      · obtain ⟨b, off, v, eK, hb, hv, gv⟩ := (HK.out.ext ER.out).int hlt
        subst eK
        obtain ⟨v0, v9⟩ := HV.out v (List.mem_of_getElem? hv.out)
        have hzn : (numT v).size = 1 := by rw [numT_small v0 v9]; rfl
        have HT : ks.take (k + 1) = ks.take k ++ [v] := by rw [List.take_add_one, hv.out]; rfl
        by_cases hk0 : k = 0
        · have d0 : decide ((0 : Int) < k) = false := by simp; omega
          have d1 : decide (0 < k) = false := by simp; omega
          have HJ := Lib.hid (show joinB (ks.take k) ++ numT v = joinB (ks.take (k + 1)) by rw [HT]; subst hk0; rw [List.take_zero, List.nil_append, joinB_one, joinB_nil])
          clear HT hk0
          go_wp2_with (go_at_call 34; refine (l1Num_any _ v _ v0 (Int.le_of_eq (Int.toNat_of_nonneg v0).symm) (by omega)).mono ?_; rintro e wx ⟨rfl, hx⟩)
          go_roundw
          case rel => exact ⟨k + 1, by omega, by go_num, by rw [← HJ.out], hr.trans hx⟩
          case measure => simp [intOf]; omega
        · have d0 : decide ((0 : Int) < k) = true := by simp; omega
          have d1 : decide (0 < k) = true := by simp; omega
          have HJ := Lib.hid (show (joinB (ks.take k) ++ (⟨#[45]⟩ : ByteArray)) ++ numT v = joinB (ks.take (k + 1)) by
            rw [HT, joinB_snoc]
            intro e
            have := congrArg List.length e
            rw [List.length_take, HL.out] at this
            simp at this; omega)
          clear HT hk0
          go_wp2_with (go_at_call 34; refine (l1Num_any _ v _ v0 (Int.le_of_eq (Int.toNat_of_nonneg v0).symm) (by omega)).mono ?_; rintro e wx ⟨rfl, hx⟩)
          go_roundw
          case rel => exact ⟨k + 1, by omega, by go_num, by rw [← HJ.out], hr.trans hx⟩
          case measure => simp [intOf]; omega
      · obtain rfl : k = l := by omega
        have HJ := Lib.hid (show joinB (ks.take k) = joinB ks by rw [List.take_of_length_le (by rw [HL.out]; omega)])
        cases hfr : freeOf bs ks
        · go_wp2_with (go_at_call 32; refine (F.out _ ER.out).mono ?_; rintro e wg ⟨rfl, hg⟩; rw [hfr])
          go_ret2
          exact ⟨by rw [kindT, hfr, ← HJ.out]; rfl, ER.out.trans hg⟩
        · go_wp2_with (go_at_call 32; refine (F.out _ ER.out).mono ?_; rintro e wg ⟨rfl, hg⟩; rw [hfr])
          go_ret2
          exact ⟨by rw [kindT, hfr, ← HJ.out]; rfl, ER.out.trans hg⟩

theorem app_str {ops : Array Oper} {rest : List Oper} {o : Oper} {a : Act} {w : World} {Q : Exit → Act → World → Prop} (hgd : o.guard = none) (s x : Operand)
    (ho : o.op = .call { callee := .builtin .append, args := #[s, x], argTypes := #[73, 73] })
    (base m oc g : Nat) (A : Option Addr) (cs : List Value) (u : ByteArray) (hs : a.eval s = .slice A m oc) (hx : a.eval x = .slice (some ⟨g, 0, none⟩) 1 1)
    (hown : w.ownsRow base 9 1 (.slice A m oc) m cs) (hc : w.cell? ⟨g, 0, none⟩ = some (.string u)) (hm : m ≤ 100000000) (hb : base ≤ w.heap.size)
    (h : ∀ A' c' w', w'.ownsRow base 9 1 (.slice A' (m + 1) c') (m + 1) (cs ++ [.string u]) → w.grownBy w' (Value.ownBlock (.slice A m oc)) → wpList Tryd.prog ops Q rest (a.put o.dst (.slice A' (m + 1) c')) w') : wpList Tryd.prog ops Q (o :: rest) a w := by
  obtain ⟨i0, hi, hz0, hz1, hz2⟩ := info_parts (show (Tryd.prog.info? 9).map (fun i => (i.zero, i.size, i.bytes)) = some (some (.string ⟨#[]⟩), 1, 16) by kernel_rfl)
  refine wpList_append_own w hgd s x 73 ho base 9 i0 (.string ⟨#[]⟩) 1 16 Tryd.underlying73 hi hz0 hz1 hz2 rfl (by decide) (.slice A m oc) m cs hs hown ⟨g, 0, none⟩ 1 1 [.string u] hx rfl ?_ ?_ ?_ ?_ hb ?_
  · intro j u hj
    obtain rfl : j = 0 := by have := (List.getElem?_eq_some_iff.1 hj).1; simpa using this
    simp at hj; subst hj
    rw [Addr.add_zero']; exact hc
  · intro u hu; simp at hu; subst hu; rfl
  · unfold maxLen; omega
  · omega
  · intro v' w' h1 h2 h3
    obtain ⟨A', c', rfl⟩ := own_slice h1
    exact h A' c' w' h1 h2
def nums (ks : List Int) : List ByteArray := ks.map numT
def strV (xs : List ByteArray) : List Value := xs.map fun x => .string x
theorem join_own (w : World) (O : Option Addr) (k oc : Nat) (xs : List ByteArray) (base : Nat) (hl : xs.length = k) (hk1 : 1 ≤ k) (hk : k ≤ 1000) (hj : (Lib.join (xs.map (·.data.toList)) [45]).length ≤ 100000) (h : w.ownsRow base 9 1 (.slice O k oc) k (strV xs)) :
    Calls Tryd.prog 51 #[.slice O k oc, .string ⟨#[45]⟩] w fun e w' => e = .returned (.string ⟨(Lib.join (xs.map (·.data.toList)) [45]).toArray⟩) ∧ Ext w w' := by
  have R := Rd.own h
  obtain ⟨b, off, e, hblt, hc⟩ := R.2 (by omega)
  have hcap : k ≤ oc := by
    rcases h.2 with ⟨_, h0⟩ | ⟨g, cap, cur, hv, _, _, hle, _⟩
    · omega
    · injection hv with _ _ hv; subst hv; exact hle
  subst e
  subst hl
  refine (Tryd.strings_Join b off oc xs ⟨#[45]⟩ w (fun j x hx => hc j _ (by simp [strV, hx])) hblt (by omega) hcap (Nat.le_trans hj (by decide))).mono ?_
  rintro e w' ⟨rfl, hb⟩
  exact ⟨rfl, Ext.of hb⟩
set_option maxRecDepth 100000 in
set_option maxHeartbeats 2000000 in
theorem joinInts_any (K : Option Addr) (l e : Nat) (ks : List Int) (w : World) (hl : ks.length = l) (hl1 : 1 ≤ l) (hl2 : l ≤ 1000) (hv9 : ∀ v ∈ ks, 0 ≤ v ∧ v < 10) (hk : Rd w K l 1 (ints ks)) (ht : TabOkW w) :
    Calls Tryd.prog 33 #[.slice K l e, .string ⟨#[45]⟩] w fun e w' => e = .returned (.string (joinB ks)) ∧ Ext w w' := by
  have HV := Lib.hid hv9
  have HK := Lib.hid hk
  have HL := Lib.hid hl
  have HT := Lib.hid ht
  clear hv9 hk hl ht
  go_enter Tryd.func33, Tryd.ntmps33
  go_wp2
  go_loopw [5, 10] (fun o i wr => ∃ (k : Nat) (O : Option Addr) (oc : Nat), k ≤ l ∧ i = .int .i64 k ∧ o = .slice O k oc ∧ wr.ownsRow w.heap.size 9 1 (.slice O k oc) k (strV (nums (ks.take k))) ∧ Ext w wr) (fun _ i _ => l - (intOf i).toNat)
  case atStart => exact ⟨0, none, 0, Nat.zero_le _, rfl, rfl, own_nil _ _ _ _, Ext.refl _⟩
  case round =>
    obtain ⟨k, O, oc, hkl, rfl, rfl, hO, hr⟩ := hrel
    have HO := Lib.hid hO
    have ER := Lib.hid hr
    clear hO hr
    by_cases hlt : k < l
    · obtain ⟨b, off, v, eK, hb, hv, gv⟩ := (HK.out.ext ER.out).int hlt
      subst eK
      obtain ⟨v0, v9⟩ := HV.out v (List.mem_of_getElem? hv.out)
      go_wp2_with (first
        | (go_at_call 50; refine (Itoa_any v _ (by omega) (by omega) (HT.out.ext ER.out)).mono ?_; rintro e wx ⟨rfl, hx⟩; have HX := Lib.hid hx; clear hx)
        | (at_builtin; refine app_str rfl (.tmp 14) (.tmp 17) rfl w.heap.size k oc wx.heap.size O _ (numT v) rfl rfl ((HX.out.own HO.out).alloc _) (new_cell _ _ _ 0 _ rfl) (by omega) (by have := (ER.out.trans HX.out).size; simp only [World.size_alloc]; omega) ?_; intro A2 c2 w2 o2 g2; have O2 := Lib.hid o2; have EE2 := Lib.hid (((ER.out.trans HX.out).alloc (.cells #[.string (numT v)] 9)).grown g2 (fun k hk => ((HX.out.own HO.out).lt k hk).1)); clear o2 g2))
      go_roundw
      case rel =>
        refine ⟨k + 1, A2, c2, by omega, by go_num, rfl, ?_, EE2.out⟩
        have HT2 : ks.take (k + 1) = ks.take k ++ [v] := by rw [List.take_add_one, hv.out]; rfl
        rw [HT2]
        simpa [nums, strV] using O2.out
      case measure => simp [intOf]; omega
    · obtain rfl : k = l := by omega
      have HJ := Lib.hid (show ks.take k = ks by rw [List.take_of_length_le (by rw [HL.out]; omega)])
      have hlen : (nums ks).length = k := by rw [nums, List.length_map, HL.out]
      have hbk := joinB_len ks HV.out
      have hxs : (nums ks).map (·.data.toList) = ks.map fun v => (numT v).data.toList := by simp [nums]
      go_wp2_with (go_at_call 51; refine (join_own wr O k oc (nums ks) w.heap.size hlen hl1 (by omega) (by rw [hxs]; rw [HL.out] at hbk; omega) (by have := HO.out; rw [HJ.out] at this; exact this)).mono ?_; rintro e wy ⟨rfl, hy⟩)
      go_ret
      exact ⟨rfl, ER.out.trans hy⟩
end Go.Proofs.YtekggbmpogmlcaaDoor

namespace Go.Proofs.YtekggbmpogmlcaaDoor
open Go.RowKit
set_option linter.unusedVariables false
set_option linter.unusedSimpArgs false
attribute [local go_sem] ExtOf.cell

def nextK (ss : List Int) (bs : List Ban) (ks : List Int) : Option (List Int) := if compP ss bs ks then firstFrom ss bs (numOf ss ks + 1).toNat else none
theorem nextK_yes {ss : List Int} {bs : List Ban} {ks : List Int} (h : compP ss bs ks = true) : nextK ss bs ks = firstFrom ss bs (numOf ss ks + 1).toNat := by unfold nextK; rw [if_pos h]
theorem nextK_no {ss : List Int} {bs : List Ban} {ks : List Int} (h : compP ss bs ks = false) : nextK ss bs ks = none := by unfold nextK; rw [h]; rfl
theorem nextK_len (ss : List Int) (bs : List Ban) (ks : List Int) : ((nextK ss bs ks).getD []).length ≤ 10000 := by
  cases h : compP ss bs ks
  · rw [nextK_no h]; exact Nat.zero_le _
  · have h1 : TabOk ss bs = true := by simp only [compP, Bool.and_eq_true] at h; exact h.1
    obtain ⟨⟨_, t2⟩, _⟩ := TabOk_all h1
    rw [nextK_yes h]; have := firstFrom_len ss bs (numOf ss ks + 1).toNat; omega
theorem lexI_drop {l m : List Int} {k : Nat} {a b : Int} (hl : l[k]? = some a) (hm : m[k]? = some b) : lexI (l.drop k) (m.drop k) = if cmpI a b = 0 then lexI (l.drop (k + 1)) (m.drop (k + 1)) else cmpI a b := by
  obtain ⟨h1, rfl⟩ := List.getElem?_eq_some_iff.1 hl
  obtain ⟨h2, rfl⟩ := List.getElem?_eq_some_iff.1 hm
  rw [List.drop_eq_getElem_cons h1, List.drop_eq_getElem_cons h2]
  rfl
theorem KindOk_get {ss ks : List Int} (h : KindOk ss ks = true) {k : Nat} {s v : Int} (h1 : ss[k]? = some s) (h2 : ks[k]? = some v) : 0 ≤ v ∧ v ≤ s - 1 := by
  simp only [KindOk, Bool.and_eq_true, decide_eq_true_eq, List.all_eq_true] at h
  have := h.2 _ (List.mem_of_getElem? (zip_get h2 h1))
  simp only [zbad, Bool.not_not] at this
  exact inB_iff.1 this
theorem KindOk_len' {ss ks : List Int} (h : KindOk ss ks = true) : ks.length = ss.length := by
  simp only [KindOk, Bool.and_eq_true, decide_eq_true_eq] at h; exact h.1
theorem numOf_take {ss ks : List Int} (h : KindOk ss ks = true) {k : Nat} {s v : Int} (h1 : ss[k]? = some s) (h2 : ks[k]? = some v) : numOf (ss.take (k + 1)) (ks.take (k + 1)) = numOf (ss.take k) (ks.take k) * s + v := by
  rw [take_snoc h1, take_snoc h2, numOf_snoc (by simp [List.length_take, KindOk_len' h])]
theorem KindOk_take {ss ks : List Int} (h : KindOk ss ks = true) (k : Nat) : KindOk (ss.take k) (ks.take k) = true := by
  have hl := KindOk_len' h
  simp only [KindOk, Bool.and_eq_true, decide_eq_true_eq, List.all_eq_true] at h ⊢
  refine ⟨by simp [List.length_take, hl], fun p hp => h.2 p ?_⟩
  obtain ⟨i, hi⟩ := List.mem_iff_getElem?.1 hp
  rw [List.getElem?_zip_eq_some] at hi
  obtain ⟨h1, h2⟩ := hi
  refine List.mem_iff_getElem?.2 ⟨i, ?_⟩
  rw [List.getElem?_zip_eq_some]
  rw [List.getElem?_take] at h1 h2
  split at h1
  · rename_i hik
    rw [if_pos hik] at h2
    exact ⟨h1, h2⟩
  · cases h1
set_option maxRecDepth 100000 in
set_option maxHeartbeats 1000000 in
theorem l6Number_any (A : Option Addr) (n c : Nat) (B : Option Addr) (m d : Nat) (ss : List Int) (bs : List Ban) (K : Option Addr) (e : Nat) (ks : List Int) (w : World) (h : TabL w A n B m ss bs) (hs : ∀ s ∈ ss, 1 ≤ s ∧ s ≤ 5) (hl : ss.length ≤ 5) (hk : KindOk ss ks = true) (hr : Rd w K n 1 (ints ks)) :
    Calls Tryd.prog 31 #[.agg #[.slice A n c, .slice B m d], .slice K n e] w fun e w' => e = .returned (.int .i64 (numOf ss ks)) ∧ Ext w w' := by
  have hn := h.sm
  have HN := Lib.hid h.sl
  have HKL := Lib.hid (show ks.length = n by rw [KindOk_len' hk]; exact h.sl)
  have HS := Lib.hid hs
  have HB := Lib.hid (fun k => numOf_bd _ _ (KindOk_take hk k))
  have HA := Lib.hid (allN_take_small hs hl)
  have HT := Lib.hid (show ss.take n = ss ∧ ks.take n = ks from ⟨List.take_of_length_le (Nat.le_of_eq h.sl), List.take_of_length_le (Nat.le_of_eq HKL.out)⟩)
  have HK := Lib.hid hk
  clear hs hl hk
  go_enter Tryd.func31, Tryd.ntmps31
  go_wp2
  go_loopw [5, 6] (fun p i wr => ∃ k : Nat, k ≤ n ∧ i = .int .i64 k ∧ p = .int .i64 (numOf (ss.take k) (ks.take k)) ∧ Ext (w.alloc (.cells #[.slice A n c, .slice B m d] 27)) wr) (fun _ i _ => n - (intOf i).toNat)
  case atStart => exact ⟨0, Nat.zero_le _, rfl, rfl, Ext.refl _⟩
  case round =>
    obtain ⟨k, hkn, rfl, rfl, he⟩ := hrel
    have eW := ((Ext.refl w).alloc (.cells #[.slice A n c, .slice B m d] 27)).trans he
    have t0 : wr.cell? ⟨w.heap.size, 0, none⟩ = some (.slice A n c) := he.cell1 (new_cell _ _ _ 0 _ rfl)
    have hz : w.heap.size < wr.heap.size := World.block_lt_of_cell? wr _ t0
    by_cases hlt : k < n
    · obtain ⟨b, off, s, rfl, hb, hx, gs⟩ := (h.sr.ext eW).int hlt
      obtain ⟨b2, off2, v, rfl, hb2, hv, gv⟩ := (hr.ext eW).int hlt
      have hnx := Lib.hid (numOf_take HK.out hx.out hv.out)
      have h1 := HB.out k
      have h2 := HB.out (k + 1)
      have h3 := HA.out (k + 1)
      have h4 := KindOk_get HK.out hx.out hv.out
      have hs5 := HS.out s (List.mem_of_getElem? hx.out)
      rw [hnx.out] at h2
      generalize numOf (ss.take k) (ks.take k) = p at *
      have hps : 0 ≤ p * s := Int.mul_nonneg h1.1 (by omega)
      have w1 : IntKind.i64.wrap (p * s) = p * s := IntWalk.i64_in _ (by omega)
      have w2 : IntKind.i64.wrap (p * s + v) = p * s + v := IntWalk.i64_in _ (by omega)
      clear h1 h2 h3 h4 hs5
      go_wp2
      (refine wp_region_ext_lit (by kernel_rfl) (by kernel_rfl) ?_; (repeat (go_big_quiet_step ((fail)))); refine wpQuiet_nil ?_; rintro wq ⟨⟨_, heq⟩, rfl⟩; (try dsimp only))
      go_wp2
      go_roundw
      case rel => exact ⟨k + 1, by omega, by go_num, by rw [hnx.out], he.trans heq⟩
      case measure => simp [intOf]; omega
    · obtain rfl : k = n := by omega
      rw [HT.out.1, HT.out.2]
      go_wp2
      go_ret
      exact ⟨rfl, eW⟩
set_option maxRecDepth 100000 in
set_option maxHeartbeats 1000000 in
theorem CompareL_any (K : Option Addr) (e : Nat) (ks : List Int) (L : Option Addr) (e' n : Nat) (ls : List Int) (w : World) (hn : n ≤ 1048576) (hk : ks.length = n) (hl : ls.length = n) (hr : Rd w K n 1 (ints ks)) (hr' : Rd w L n 1 (ints ls)) :
    Calls Tryd.prog 28 #[.slice K n e, .slice L n e'] w fun e w' => e = .returned (.int .i64 (lexI ks ls)) ∧ w = w' := by
  have HK := Lib.hid hk
  have HL := Lib.hid hl
  clear hk hl
  go_enter Tryd.func28, Tryd.ntmps28
  go_wp2
  go_loop [11] (fun i => ∃ k : Nat, k ≤ n ∧ i = .int .i64 k ∧ lexI ks ls = lexI (ks.drop k) (ls.drop k)) (fun i => n - (intOf i).toNat)
  case atStart => exact ⟨0, Nat.zero_le _, rfl, rfl⟩
  case round =>
    obtain ⟨k, hkn, rfl, hx⟩ := hrel
    have HX := Lib.hid hx
    clear hx
    by_cases hlt : k < n
    · obtain ⟨b, off, s, rfl, hb, hs, gs⟩ := hr.int hlt
      obtain ⟨b2, off2, v, rfl, hb2, hv, gv⟩ := hr'.int hlt
      have hd := Lib.hid (HX.out.trans (lexI_drop hs.out hv.out))
      have d1 : decide ((n : Int) ≤ k) = false := by simp; omega
      have d2 : decide (n ≤ k) = false := by simp; omega
      have hcb := cmpI_bd s v
      have HC := Lib.hid (Compare_any s v w)
      generalize cmpI s v = cv at *
      by_cases h0 : cv = 0
      · have hd2 := Lib.hid (hd.out.trans (if_pos h0))
        subst h0
        go_wp2_with (go_at_call 48; refine HC.out.mono ?_; rintro e w' ⟨rfl, rfl⟩)
        go_round
        case rel => exact ⟨k + 1, by omega, by go_num, hd2.out⟩
        case measure => simp [intOf]; omega
      · have hd2 := Lib.hid (hd.out.trans (if_neg h0))
        have d3 : decide (cv = 0) = false := by simpa using h0
        have d4 : (cv == 0) = false := by simpa using h0
        have d5 : (cv != 0) = true := by simpa using h0
        go_wp2_with (go_at_call 48; refine HC.out.mono ?_; rintro e w' ⟨rfl, rfl⟩)
        go_ret
        exact ⟨ret_int hd2.out.symm, rfl⟩
    · obtain rfl : k = n := by omega
      have h0 := Lib.hid (show lexI ks ls = 0 by
        rw [HX.out, List.drop_of_length_le (Nat.le_of_eq HK.out), List.drop_of_length_le (Nat.le_of_eq HL.out)]; rfl)
      go_wp2
      go_ret
      exact ⟨ret_int h0.out.symm, rfl⟩
end Go.Proofs.YtekggbmpogmlcaaDoor

namespace Go.Proofs.YtekggbmpogmlcaaDoor
open Go.RowKit
set_option linter.unusedVariables false
set_option linter.unusedSimpArgs false

theorem lexI_self : ∀ l : List Int, lexI l l = 0
  | [] => rfl
  | a :: l => by
    have h := cmpI_of_eq (a := a) (b := a) rfl
    simp only [lexI, h, if_pos]
    exact lexI_self l
theorem cmpI_zero {a b : Int} (h : cmpI a b = 0) : a = b := by
  rcases Int.lt_trichotomy a b with h1 | h1 | h1
  · rw [cmpI_of_lt h1] at h; omega
  · exact h1
  · rw [cmpI_of_gt h1] at h; omega
theorem numOf_kindAt {ss : List Int} {n : Nat} (h : ∀ s ∈ ss, 1 ≤ s) (hn : n < allN ss) : numOf ss (kindAt ss n) = n := by
  rcases lex_num ss (kindAt ss n) n (kindAt_ok ss n h) with h1 | h1
  · rw [lexI_self] at h1
    exact (cmpI_zero h1.symm).symm
  · omega
theorem cnt_flat {p : Nat → Bool} {n0 : Nat} : ∀ {m : Nat}, n0 ≤ m → (∀ i, n0 ≤ i → i < m → p i = false) → cnt p m = cnt p n0
  | 0, h, _ => by obtain rfl : n0 = 0 := by omega
                  rfl
  | m + 1, h, hno => by
    rcases Nat.lt_or_ge m n0 with h1 | h1
    · obtain rfl : n0 = m + 1 := by omega
      rfl
    · rw [cnt_no (hno m h1 (by omega))]
      exact cnt_flat h1 (fun i h2 h3 => hno i h2 (by omega))
theorem cnt_mono {p : Nat → Bool} {n m : Nat} (h : n ≤ m) : cnt p n ≤ cnt p m := by
  induction m with
  | zero => obtain rfl : n = 0 := by omega
            exact Nat.le_refl _
  | succ m ih =>
    rcases Nat.lt_or_ge m n with h1 | h1
    · obtain rfl : n = m + 1 := by omega
      exact Nat.le_refl _
    · have := ih h1
      have h2 : cnt p m ≤ cnt p (m + 1) := by rw [cnt]; omega
      omega
/-- The compatible kind with number i, the count-th one. -/
structure KAt (ss : List Int) (bs : List Ban) (i count : Nat) : Prop where
  lt : i < allN ss
  free : freeOf bs (kindAt ss i) = true
  num : cnt (fun i => freeOf bs (kindAt ss i)) i + 1 = count
theorem firstFrom_cases (ss : List Int) (bs : List Ban) {n0 : Nat} (h0 : n0 ≤ allN ss) :
    (firstFrom ss bs n0 = none ∧ cnt (fun i => freeOf bs (kindAt ss i)) (allN ss) = cnt (fun i => freeOf bs (kindAt ss i)) n0) ∨
    ∃ j, firstFrom ss bs n0 = some (kindAt ss j) ∧ KAt ss bs j (cnt (fun i => freeOf bs (kindAt ss i)) n0 + 1) := by
  unfold firstFrom nxt
  generalize hp : (fun i => freeOf bs (kindAt ss i)) = p
  cases hf : (List.range (allN ss)).find? (fun n => decide (n0 ≤ n) && p n) with
  | none =>
    left
    rw [List.find?_range_eq_none] at hf
    refine ⟨rfl, cnt_flat h0 (fun i h1 h2 => ?_)⟩
    have := hf i h2
    simpa [h1] using this
  | some j =>
    right
    rw [List.find?_range_eq_some] at hf
    obtain ⟨h1, h2, h3⟩ := hf
    simp only [Bool.and_eq_true, decide_eq_true_eq] at h1
    refine ⟨j, rfl, by simpa using h2, by have := h1.2; rw [← hp] at this; exact this, ?_⟩
    rw [hp]
    have := cnt_flat (p := p) h1.1 (fun i h4 h5 => by have := h3 i h5; simpa [h4] using this)
    rw [this]
theorem KAt.pos {ss : List Int} {bs : List Ban} {i count : Nat} (h : KAt ss bs i count) : count ≤ cnt (fun i => freeOf bs (kindAt ss i)) (allN ss) := by
  have h1 := h.num
  have h2 := cnt_mono (p := fun i => freeOf bs (kindAt ss i)) (show i + 1 ≤ allN ss from h.lt)
  rw [cnt_yes h.free] at h2
  omega
theorem count_cnt {ss : List Int} {bs : List Ban} (h : TabOk ss bs = true) : countR ss bs = ((cnt (fun i => freeOf bs (kindAt ss i)) (allN ss) : Nat) : Int) := by
  rw [countR_yes h, frees_count]
/-- The first kind, or none at all. -/
theorem first_at {ss : List Int} {bs : List Ban} : (firstK ss bs = none ∧ countR ss bs = 0) ∨ ∃ i, TabOk ss bs = true ∧ firstK ss bs = some (kindAt ss i) ∧ KAt ss bs i 1 ∧ 0 < countR ss bs := by
  cases h : TabOk ss bs
  · exact .inl ⟨firstK_no h, countR_no h⟩
  · rw [firstK_yes h, count_cnt h]
    rcases firstFrom_cases ss bs (Nat.zero_le _) with ⟨h1, h2⟩ | ⟨j, h1, h2⟩
    · exact .inl ⟨h1, by rw [h2]; rfl⟩
    · have h3 : KAt ss bs j 1 := h2
      exact .inr ⟨j, rfl, h1, h3, by have := h3.pos; omega⟩
/-- The kind behind a kind, or the last one. -/
theorem next_at {ss : List Int} {bs : List Ban} {i count : Nat} (ht : TabOk ss bs = true) (h : KAt ss bs i count) :
    compP ss bs (kindAt ss i) = true ∧ compQ ss bs (kindAt ss i) = true ∧ ((nextK ss bs (kindAt ss i) = none ∧ (count : Int) = countR ss bs) ∨ ∃ j, nextK ss bs (kindAt ss i) = some (kindAt ss j) ∧ KAt ss bs j (count + 1) ∧ (count : Int) < countR ss bs) := by
  obtain ⟨_, _, t4, _⟩ := TabOk_all ht
  have hs : ∀ s ∈ ss, 1 ≤ s := fun s hm => (t4 s hm).1
  have h1 : compP ss bs (kindAt ss i) = true := by simp [compP, ht, kindAt_ok ss i hs]
  refine ⟨h1, by simp [compQ, h1, h.free], ?_⟩
  rw [nextK_yes h1, numOf_kindAt hs h.lt, count_cnt ht]
  have e : ((i : Int) + 1).toNat = i + 1 := by omega
  rw [e]
  have hc : cnt (fun i => freeOf bs (kindAt ss i)) (i + 1) = count := by rw [cnt_yes h.free]; exact h.num
  rcases firstFrom_cases ss bs (show i + 1 ≤ allN ss from h.lt) with ⟨h2, h3⟩ | ⟨j, h2, h3⟩
  · exact .inl ⟨h2, by rw [h3, hc]⟩
  · rw [hc] at h3
    exact .inr ⟨j, h2, h3, by have := h3.pos; omega⟩
theorem countR_bd {ss : List Int} {bs : List Ban} : 0 ≤ countR ss bs ∧ countR ss bs ≤ 100000 := by
  cases h : TabOk ss bs
  · rw [countR_no h]; omega
  · obtain ⟨⟨_, t2⟩, _, t4, _⟩ := TabOk_all h
    have h1 := allN_small t4 t2
    have h2 := cnt_le (fun i => freeOf bs (kindAt ss i)) (allN ss)
    rw [count_cnt h]
    omega
theorem ktP_comp (ss : List Int) (bs : List Ban) (ks : List Int) : ktP ss bs ks = compP ss bs ks := rfl
end Go.Proofs.YtekggbmpogmlcaaDoor

namespace Go.Proofs.YtekggbmpogmlcaaDoor
open Go.RowKit
set_option linter.unusedVariables false
set_option linter.unusedSimpArgs false
attribute [local go_sem] ExtOf.cell

set_option maxRecDepth 100000 in
set_option maxHeartbeats 1000000 in
theorem NextKindS_any (A : Option Addr) (n c : Nat) (B : Option Addr) (m d : Nat) (ss : List Int) (bs : List Ban) (K : Option Addr) (l e : Nat) (ks : List Int) (w : World) (h : TabL w A n B m ss bs) (hl : ks.length = l) (hl2 : l ≤ 1048576) (hk : Rd w K l 1 (ints ks)) :
    Calls Tryd.prog 16 #[.agg #[.slice A n c, .slice B m d], .slice K l e] w (OptPost (nextK ss bs ks) w) := by
  have eW := (Ext.refl w).alloc (.cells #[.slice A n c, .slice B m d] 27)
  have C := Lib.hid (l6Good_any A n c B m d ss bs _ (h.ext eW))
  cases h1 : TabOk ss bs
  · rw [nextK_no (by simp [compP, h1])]
    go_enter Tryd.func16, Tryd.ntmps16
    go_wp2_with (go_at_call 23; refine C.out.mono ?_; rintro e we ⟨rfl, he⟩; rw [h1])
    go_ret2
    exact OptPost.empty (eW.trans he)
  obtain ⟨⟨t1, t2⟩, t3, t4, t5⟩ := TabOk_all h1
  have D := Lib.hid (fun (w' : World) (he : Ext w w') => l6Kind_any A n c B m d ss bs K l e ks w' (h.ext he) t4 hl hl2 (hk.ext he))
  have hn := h.sl
  cases h2 : KindOk ss ks
  · rw [nextK_no (by simp [compP, h2])]
    clear t4 t5 hk
    go_enter Tryd.func16, Tryd.ntmps16
    go_wp2_with (first | (go_at_call 23; refine C.out.mono ?_; rintro e we ⟨rfl, he⟩; rw [h1]; have p0 := he.cell1 (new_cell w #[.slice A n c, .slice B m d] 27 0 _ rfl); have p1 := he.cell1 (new_cell w #[.slice A n c, .slice B m d] 27 1 _ rfl); have hz : w.heap.size < we.heap.size := World.block_lt_of_cell? we _ p0) | (go_at_call 30; refine (D.out _ (eW.trans he)).mono ?_; rintro e wf ⟨rfl, hf⟩; rw [h2]; have q0 := hf.cell1 p0; have q1 := hf.cell1 p1; have hz2 : w.heap.size < wf.heap.size := World.block_lt_of_cell? wf _ q0))
    go_ret2
    exact OptPost.empty (eW.trans (he.trans hf))
  · have hln : l = n := by have := KindOk_len' h2; omega
    subst hln
    rw [nextK_yes (by simp [compP, h1, h2])]
    obtain ⟨b1, b2⟩ := numOf_bd ss ks h2
    have hA := allN_small t4 t2
    have F := Lib.hid (fun (w' : World) (he : Ext w w') => l6Number_any A l c B m d ss bs K e ks w' (h.ext he) t4 t2 h2 (hk.ext he))
    have G := Lib.hid (fun (w' : World) (he : Ext w w') (hx : (numOf ss ks + 1).toNat ≤ allN ss) => l6From_any A l c B m d ss bs (numOf ss ks + 1).toNat w' (h.ext he) t4 t2 t5 hx)
    have HX : (numOf ss ks + 1).toNat ≤ allN ss := by omega
    have hbig : numOf ss ks < 3125 := by omega
    generalize hp : numOf ss ks = p at *
    have e1 : (((p + 1).toNat : Nat) : Int) = p + 1 := by omega
    rw [e1] at G
    generalize firstFrom ss bs (p + 1).toNat = R at *
    have w1 : IntKind.i64.wrap (p + 1) = p + 1 := IntWalk.i64_in _ (by omega)
    clear t4 t5 hk hp
    go_enter Tryd.func16, Tryd.ntmps16
    go_wp2_with (first | (go_at_call 23; refine C.out.mono ?_; rintro e we ⟨rfl, he⟩; rw [h1]; have p0 := he.cell1 (new_cell w #[.slice A l c, .slice B m d] 27 0 _ rfl); have p1 := he.cell1 (new_cell w #[.slice A l c, .slice B m d] 27 1 _ rfl); have hz : w.heap.size < we.heap.size := World.block_lt_of_cell? we _ p0) | (go_at_call 30; refine (D.out _ (eW.trans he)).mono ?_; rintro e wf ⟨rfl, hf⟩; rw [h2]; have q0 := hf.cell1 p0; have q1 := hf.cell1 p1; have hz2 : w.heap.size < wf.heap.size := World.block_lt_of_cell? wf _ q0))
    have HEF := Lib.hid (eW.trans (he.trans hf))
    refine wp_region_held_drew (S := (fun w' => w'.cell? ⟨w.heap.size, 0, none⟩ = some (.slice A l c) ∧ w'.cell? ⟨w.heap.size, 1, none⟩ = some (.slice B m d))) (by kernel_rfl) ?_ (fun hHeld => ?_); (focus ((try dsimp only); (repeat' apply And.intro) <;> first | assumption | exact Ext.cell1 (Ext.drew (Ext.refl _)) (by assumption) | (simp [*, go_sem]; done) | (simp [*, go_sem, World.cell?_alloc_past]; done)))
    (refine wpAnyH_take (i := 0) (v := ?_) rfl (by kernel_rfl) (by kernel_rfl) (by kernel_rfl) (fun _ _ _ h => h) (Or.inl ⟨by rfl, ?_⟩) (by assumption) ?_); rotate_left 1; (focus (intro w hSw; (try dsimp only at hSw); go_simp; (try with_reducible rfl))); (try simp only [Act.put, List.setIfInBounds_toArray, List.set_cons_zero, List.set_cons_succ]); (refine wpAnyH_take (i := 1) (v := ?_) rfl (by kernel_rfl) (by kernel_rfl) (by kernel_rfl) (fun _ _ _ h => h) (Or.inl ⟨by rfl, ?_⟩) (by assumption) ?_); rotate_left 1; (focus (intro w hSw; (try dsimp only at hSw); go_simp; (try with_reducible rfl))); (try simp only [Act.put, List.setIfInBounds_toArray, List.set_cons_zero, List.set_cons_succ]); (refine wpAnyH_take (i := 2) (v := ?_) rfl (by kernel_rfl) (by kernel_rfl) (by kernel_rfl) (fun _ _ _ h => h) (Or.inl ⟨by rfl, ?_⟩) (by assumption) ?_); rotate_left 1; (focus (intro w hSw; (try dsimp only at hSw); go_simp; (try with_reducible rfl))); (try simp only [Act.put, List.setIfInBounds_toArray, List.set_cons_zero, List.set_cons_succ])
    refine wpAnyH_ready (rs := [3]) (by kernel_rfl) (by simp) ?_; refine AllReadyH.cons rfl (fun K hK => ?_) AllReadyH.nil; go_simp; (go_at_call 31; refine (F.out _ (HEF.out.trans (by repeat (first | exact Ext.refl _ | assumption | refine Ext.trans ?_ (by assumption) | refine Ext.drew ?_ | refine Ext.drewN ?_ _ | refine Ext.alloc ?_ _)))).mono ?_; rintro e wg ⟨rfl, he1⟩); (try go_wp2_with fail); refine hK.out _ _ ?_ (fun hHeld => ?_); (focus (((try dsimp only); go_split_ands; (repeat' apply And.intro) <;> first | assumption | exact Ext.cell1 he1 (by assumption) | (simp [*]; done) | (simp [*, go_sem, World.cell?_alloc_past]; done)))); clear hK K; (try simp only [Act.put, List.setIfInBounds_toArray, List.set_cons_zero, List.set_cons_succ])
    have HE1 := Lib.hid (HEF.out.trans ((show Ext wf wg from (by repeat (first | exact Ext.refl _ | assumption | refine Ext.trans ?_ (by assumption) | refine Ext.drew ?_ | refine Ext.drewN ?_ _ | refine Ext.alloc ?_ _)))))
    clear he1
    (refine wpAnyH_take (i := 4) (v := ?_) rfl (by kernel_rfl) (by kernel_rfl) (by kernel_rfl) (fun _ _ _ h => h) (Or.inl ⟨by rfl, ?_⟩) (by assumption) ?_); rotate_left 1; (focus (intro w hSw; (try dsimp only at hSw); go_simp; (try with_reducible rfl))); (try simp only [Act.put, List.setIfInBounds_toArray, List.set_cons_zero, List.set_cons_succ])
    refine wpAnyH_ready (rs := [5]) (by kernel_rfl) (by simp) ?_; refine AllReadyH.cons rfl (fun K hK => ?_) AllReadyH.nil; go_simp; (go_at_call 25; refine (G.out _ HE1.out HX).mono ?_; rintro e wh ⟨X, x, xc, rfl, ho, he1⟩; have HO := Lib.hid ho; clear ho); (try go_wp2_with fail); refine hK.out _ _ ?_ (fun hHeld => ?_); (focus (((try dsimp only); go_split_ands; (repeat' apply And.intro) <;> first | assumption | exact Ext.cell1 he1 (by assumption) | (simp [*]; done) | (simp [*, go_sem, World.cell?_alloc_past]; done)))); clear hK K; (try simp only [Act.put, List.setIfInBounds_toArray, List.set_cons_zero, List.set_cons_succ])
    (refine wpAnyH_take (i := 6) (v := ?_) rfl (by kernel_rfl) (by kernel_rfl) (by kernel_rfl) (fun _ _ _ h => h) (Or.inl ⟨by rfl, ?_⟩) (by assumption) ?_); rotate_left 1; (focus (intro w hSw; (try dsimp only at hSw); go_simp; (try with_reducible rfl))); (try simp only [Act.put, List.setIfInBounds_toArray, List.set_cons_zero, List.set_cons_succ]); (refine wpAnyH_take (i := 7) (v := ?_) rfl (by kernel_rfl) (by kernel_rfl) (by kernel_rfl) (fun _ _ _ h => h) (Or.inl ⟨by rfl, ?_⟩) (by assumption) ?_); rotate_left 1; (focus (intro w hSw; (try dsimp only at hSw); go_simp; (try with_reducible rfl))); (try simp only [Act.put, List.setIfInBounds_toArray, List.set_cons_zero, List.set_cons_succ]); (refine wpAnyH_take (i := 8) (v := ?_) rfl (by kernel_rfl) (by kernel_rfl) (by kernel_rfl) (fun _ _ _ h => h) (Or.inl ⟨by rfl, ?_⟩) (by assumption) ?_); rotate_left 1; (focus (intro w hSw; (try dsimp only at hSw); go_simp; (try with_reducible rfl))); (try simp only [Act.put, List.setIfInBounds_toArray, List.set_cons_zero, List.set_cons_succ]); (refine wpAnyH_take (i := 9) (v := ?_) rfl (by kernel_rfl) (by kernel_rfl) (by kernel_rfl) (fun _ _ _ h => h) (Or.inl ⟨by rfl, ?_⟩) (by assumption) ?_); rotate_left 1; (focus (intro w hSw; (try dsimp only at hSw); go_simp; (try with_reducible rfl))); (try simp only [Act.put, List.setIfInBounds_toArray, List.set_cons_zero, List.set_cons_succ]); (refine wpAnyH_take (i := 10) (v := ?_) rfl (by kernel_rfl) (by kernel_rfl) (by kernel_rfl) (fun _ _ _ h => h) (Or.inl ⟨by rfl, ?_⟩) (by assumption) ?_); rotate_left 1; (focus (intro w hSw; (try dsimp only at hSw); go_simp; (try with_reducible rfl))); (try simp only [Act.put, List.setIfInBounds_toArray, List.set_cons_zero, List.set_cons_succ])
    refine wpAnyH_done (by kernel_rfl) ?_ _
    all_goals
      go_wp2
      go_ret2
      exact ⟨X, x, xc, rfl, own_low' HO.out HE1.out.size, HE1.out.trans he1⟩
set_option maxRecDepth 100000 in
set_option maxHeartbeats 1000000 in
theorem NextKindI_any (A : Option Addr) (n c : Nat) (B : Option Addr) (m d : Nat) (ss : List Int) (bs : List Ban) (K : Option Addr) (l e : Nat) (ks : List Int) (w : World) (h : TabL w A n B m ss bs) (hl : ks.length = l) (hl2 : l ≤ 1048576) (hk : Rd w K l 1 (ints ks)) :
    Calls Tryd.prog 14 #[.agg #[.slice A n c, .slice B m d], .slice K l e] w (OptPost (nextK ss bs ks) w) := by
  have eW := (Ext.refl w).alloc (.cells #[.slice A n c, .slice B m d] 27)
  have C := Lib.hid (isKindTable_any w.heap.size A n c B m d ss bs _ (h.ext eW) (new_cell _ _ _ 0 _ rfl) (new_cell _ _ _ 1 _ rfl))
  cases h1 : TabOk ss bs
  · rw [nextK_no (by simp [compP, h1])]
    go_enter Tryd.func14, Tryd.ntmps14
    go_wp2_with (go_at_call 21; refine C.out.mono ?_; rintro e we ⟨rfl, he⟩; rw [h1])
    go_ret2
    exact OptPost.none (eW.trans he)
  obtain ⟨⟨t1, t2⟩, t3, t4, t5⟩ := TabOk_all h1
  have D := Lib.hid (fun (w' : World) (he : Ext w w') (p0 : w'.cell? ⟨w.heap.size, 0, none⟩ = some (.slice A n c)) => isKind_any w.heap.size A n c B m d ss bs K l e ks w' (h.ext he) p0 t4 hl hl2 (hk.ext he))
  have hn := h.sl
  cases h2 : KindOk ss ks
  · rw [nextK_no (by simp [compP, h2])]
    clear t4 t5 hk
    go_enter Tryd.func14, Tryd.ntmps14
    go_wp2_with (first | (go_at_call 21; refine C.out.mono ?_; rintro e we ⟨rfl, he⟩; rw [h1]; have p0 := he.cell1 (new_cell w #[.slice A n c, .slice B m d] 27 0 _ rfl); have p1 := he.cell1 (new_cell w #[.slice A n c, .slice B m d] 27 1 _ rfl)) | (go_at_call 26; refine (D.out _ (eW.trans he) p0).mono ?_; rintro e wf ⟨rfl, hf⟩; rw [h2]))
    go_ret2
    exact OptPost.none (eW.trans (he.trans hf))
  · have hln : l = n := by have := KindOk_len' h2; omega
    subst hln
    rw [nextK_yes (by simp [compP, h1, h2])]
    have F := Lib.hid (fun (w' : World) (he : Ext w w') (p0 : w'.cell? ⟨w.heap.size, 0, none⟩ = some (.slice A l c)) (p1 : w'.cell? ⟨w.heap.size, 1, none⟩ = some (.slice B m d)) => kinds_any w.heap.size A l c B m d ss bs w' (h.ext he) p0 p1 t4 t2 t5)
    have HR := Lib.hid (frees_next bs h2)
    have HFL := Lib.hid (fun x => @frees_len ss bs x)
    have RK := Lib.hid hk
    have HKL := Lib.hid hl
    have HN := Lib.hid h.sl
    generalize firstFrom ss bs (numOf ss ks + 1).toNat = R at *
    clear t4 t5 hk hl hn
    go_enter Tryd.func14, Tryd.ntmps14
    go_wp2_with (first | (go_at_call 21; refine C.out.mono ?_; rintro e we ⟨rfl, he⟩; rw [h1]; have p0 := he.cell1 (new_cell w #[.slice A l c, .slice B m d] 27 0 _ rfl); have p1 := he.cell1 (new_cell w #[.slice A l c, .slice B m d] 27 1 _ rfl)) | (go_at_call 26; refine (D.out _ (eW.trans he) p0).mono ?_; rintro e wf ⟨rfl, hf⟩; rw [h2]; have q0 := hf.cell1 p0; have q1 := hf.cell1 p1) | (go_at_call 22; refine (F.out _ (eW.trans (he.trans hf)) q0 q1).mono ?_; rintro e wg ⟨O, q, oc, zs, rfl, hzl, hzs, hL, hg⟩))
    have HL := Lib.hid hL
    have HZL := Lib.hid hzl
    have HZS := Lib.hid hzs
    have HE := Lib.hid (eW.trans (he.trans hf))
    have hcap := own_cap hL.row
    rw [hzl] at hcap
    unfold maxLen at hcap
    clear hL hzl hzs C D F p0 p1 q0 q1
    go_loopw [17] (fun i wr => ∃ j : Nat, j ≤ q ∧ i = .int .i64 j ∧ noneTo (fun x => decide (0 < lexI x ks)) (frees ss bs) j ∧ Ext wg wr) (fun i _ => q - (intOf i).toNat)
    case atStart => exact ⟨0, Nat.zero_le _, rfl, noneTo_zero _ _, Ext.refl _⟩
    case round =>
      obtain ⟨j, hjq, rfl, hno, hej⟩ := hrel
      have HNO := Lib.hid hno
      clear hno
      by_cases hlt : j < q
      · obtain ⟨o, X, xe, x, rfl, ho, hxz, g0, hown⟩ := (HL.out.ext hej).get hlt HZL.out
        have hxf := snd_get HZS.out hxz.out
        dsimp only at hxf
        have hxl : x.length = l := by rw [HFL.out x (List.mem_of_getElem? hxf)]; exact HN.out
        rw [hxl] at g0 hown
        have HC := Lib.hid (CompareL_any X xe x K e l ks wr h.sm hxl HKL.out (Rd.own hown) (RK.out.ext (HE.out.trans (hg.trans hej))))
        have HO := Lib.hid hown
        have HXF := Lib.hid hxf
        clear hown hxf hxl hxz
        cases hq : decide (0 < lexI x ks)
        · have hs := Lib.hid (noneTo_succ HNO.out HXF.out hq)
          generalize lexI x ks = cv at *
          go_wp2_with (go_at_call 28; refine HC.out.mono ?_; rintro e w' ⟨rfl, rfl⟩)
          go_roundw
          case rel => exact ⟨j + 1, by omega, by go_num, hs.out, hej⟩
          case measure => simp [intOf]; omega
        · have hs := Lib.hid (HR.out.symm.trans (find_hit HNO.out HXF.out hq))
          generalize lexI x ks = cv at *
          go_wp2_with (go_at_call 28; refine HC.out.mono ?_; rintro e w' ⟨rfl, rfl⟩)
          go_ret2
          rw [hs.out]
          exact OptPost.some (own_low' HO.out HE.out.size) (HE.out.trans (hg.trans hej))
      · obtain rfl : j = q := by omega
        have hs := Lib.hid (HR.out.symm.trans (find_miss (n := j) (by rw [← HZS.out, List.length_map, HZL.out]; exact Nat.le_refl _) HNO.out))
        go_wp2
        go_ret2
        rw [hs.out]
        exact OptPost.none (HE.out.trans (hg.trans hej))
end Go.Proofs.YtekggbmpogmlcaaDoor

namespace Go.Proofs.YtekggbmpogmlcaaDoor
open Go.RowKit
set_option linter.unusedVariables false
set_option linter.unusedSimpArgs false
attribute [local go_sem] ExtOf.cell

set_option maxRecDepth 100000 in
set_option maxHeartbeats 2000000 in
theorem KindTextI_any (A : Option Addr) (n c : Nat) (B : Option Addr) (m d : Nat) (ss : List Int) (bs : List Ban) (K : Option Addr) (l e : Nat) (ks : List Int) (w : World) (h : TabL w A n B m ss bs) (hl : ks.length = l) (hl2 : l ≤ 1048576) (hk : Rd w K l 1 (ints ks)) (ht : TabOkW w) :
    Calls Tryd.prog 18 #[.agg #[.slice A n c, .slice B m d], .slice K l e] w fun e w' => e = .returned (.tuple #[.string (ktT ss bs ks), .bool (ktP ss bs ks)]) ∧ Ext w w' := by
  have eW := (Ext.refl w).alloc (.cells #[.slice A n c, .slice B m d] 27)
  have C := Lib.hid (isKindTable_any w.heap.size A n c B m d ss bs _ (h.ext eW) (new_cell _ _ _ 0 _ rfl) (new_cell _ _ _ 1 _ rfl))
  cases h1 : TabOk ss bs
  · have v1 : ktP ss bs ks = false := by simp [ktP, h1]
    have v2 : ktT ss bs ks = ⟨#[]⟩ := by simp [ktT, v1]
    rw [v1, v2]
    go_enter Tryd.func18, Tryd.ntmps18
    go_wp2_with (go_at_call 21; refine C.out.mono ?_; rintro e we ⟨rfl, he⟩; rw [h1])
    go_ret2
    exact ⟨rfl, eW.trans he⟩
  obtain ⟨⟨t1, t2⟩, t3, t4, t5⟩ := TabOk_all h1
  have D := Lib.hid (fun (w' : World) (he : Ext w w') (p0 : w'.cell? ⟨w.heap.size, 0, none⟩ = some (.slice A n c)) => isKind_any w.heap.size A n c B m d ss bs K l e ks w' (h.ext he) p0 t4 hl hl2 (hk.ext he))
  have hn := h.sl
  cases h2 : KindOk ss ks
  · have v1 : ktP ss bs ks = false := by simp [ktP, h2]
    have v2 : ktT ss bs ks = ⟨#[]⟩ := by simp [ktT, v1]
    rw [v1, v2]
    clear t4 t5 hk
    go_enter Tryd.func18, Tryd.ntmps18
    go_wp2_with (first | (go_at_call 21; refine C.out.mono ?_; rintro e we ⟨rfl, he⟩; rw [h1]; have p0 := he.cell1 (new_cell w #[.slice A n c, .slice B m d] 27 0 _ rfl); have p1 := he.cell1 (new_cell w #[.slice A n c, .slice B m d] 27 1 _ rfl)) | (go_at_call 26; refine (D.out _ (eW.trans he) p0).mono ?_; rintro e wf ⟨rfl, hf⟩; rw [h2]))
    go_ret2
    exact ⟨rfl, eW.trans (he.trans hf)⟩
  · have hln : l = n := by
      have : ks.length = ss.length := by
        simp only [KindOk, Bool.and_eq_true, decide_eq_true_eq] at h2; exact h2.1
      omega
    subst hln
    have hl1 : 1 ≤ l := by omega
    have hl5 : l ≤ 5 := by omega
    have hsz : (joinB ks).size ≤ 10 := Nat.le_trans (joinB_size ks (KT_small h2 t4)) (by omega)
    have J := Lib.hid (fun (w' : World) (he : Ext w w') => joinInts_any K l e ks w' hl hl1 (by omega) (KT_small h2 t4) (hk.ext he) (ht.ext he))
    have F := Lib.hid (fun (w' : World) (he : Ext w w') (p1 : w'.cell? ⟨w.heap.size, 1, none⟩ = some (.slice B m d)) => compatible_any w.heap.size A l c B m d ss bs K e ks w' (h.ext he) p1 t5 hl (hk.ext he))
    have v1 : ktP ss bs ks = true := by simp [ktP, h1, h2]
    have v2 : ktT ss bs ks = kindT ss bs ks := by simp [ktT, v1]
    rw [v1, v2]
    clear t1 t2 t4 t5 hk ht
    cases hfr : freeOf bs ks
    all_goals
      go_enter Tryd.func18, Tryd.ntmps18
      go_wp2_with (first | (go_at_call 21; refine C.out.mono ?_; rintro e we ⟨rfl, he⟩; rw [h1]; have p0 := he.cell1 (new_cell w #[.slice A l c, .slice B m d] 27 0 _ rfl); have p1 := he.cell1 (new_cell w #[.slice A l c, .slice B m d] 27 1 _ rfl)) | (go_at_call 26; refine (D.out _ (eW.trans he) p0).mono ?_; rintro e wf ⟨rfl, hf⟩; rw [h2]; have q1 := hf.cell1 p1) | (go_at_call 33; refine (J.out _ (eW.trans (he.trans hf))).mono ?_; rintro e wj ⟨rfl, hj⟩; have r1 := hj.cell1 q1) | (go_at_call 27; refine (F.out _ (eW.trans (he.trans (hf.trans hj))) r1).mono ?_; rintro e wg ⟨rfl, hg⟩; rw [hfr]))
      go_ret2
      exact ⟨by rw [kindT, hfr]; rfl, eW.trans (he.trans (hf.trans (hj.trans hg)))⟩
end Go.Proofs.YtekggbmpogmlcaaDoor

namespace Go.Proofs.YtekggbmpogmlcaaDoor
open Go.RowKit
set_option linter.unusedVariables false
set_option linter.unusedSimpArgs false
attribute [local go_sem] ExtOf.cell

end Go.Proofs.YtekggbmpogmlcaaDoor

namespace Go.Proofs.YtekggbmpogmlcaaDoor
open Go.RowKit
set_option linter.unusedVariables false
set_option linter.unusedSimpArgs false
attribute [local go_sem] ExtOf.cell

def bys (l : List Int) : List Value := l.map (Value.int .u8)
/-- The block of a slice lies below g. -/
def Low (A : Option Addr) (g : Nat) : Prop := ∀ b o s, A = some ⟨b, o, s⟩ → b < g
/-- A cursor in block g of which at most b choices are taken. -/
def Cur (w : World) (g b : Nat) : Prop := ∃ (A : Option Addr) (n c : Nat) (i s : Int) (l : List Int),
  w.ownsRow g 57 3 (.slice (some ⟨g, 0, none⟩) 1 1) 1 [.slice A n c, .int .i64 i, .int .u64 s] ∧ 0 ≤ i ∧ i ≤ b ∧ n ≤ maxLen ∧ Rd w A n 1 (bys l) ∧ (∀ x ∈ l, 0 ≤ x ∧ x ≤ 255) ∧ (0 < n → Low A g)
/-- What a step that takes choices leaves: only block g and new blocks are others. -/
def CurPost (g b : Nat) (w : World) (P : Value → World → Prop) (e : Ending) (w' : World) : Prop := ∃ v : Value, e = .returned v ∧ P v w' ∧ Cur w' g b ∧ w.grownBy w' (some g)
def IntIn (lo hi : Int) (v : Value) (w : World) : Prop := ∃ r : Int, v = .int .i64 r ∧ lo ≤ r ∧ r ≤ hi
theorem Cur.mono {w : World} {g b b' : Nat} (h : Cur w g b) (hb : b ≤ b') : Cur w g b' := by
  obtain ⟨A, n, c, i, s, l, h1, h2, h3, h4⟩ := h
  exact ⟨A, n, c, i, s, l, h1, h2, by omega, h4⟩
theorem Cur.lt {w : World} {g b : Nat} (h : Cur w g b) : g < w.heap.size := by
  obtain ⟨A, n, c, i, s, l, h1, _⟩ := h
  exact (h1.lt g rfl).2
theorem Cur.ext {w w' : World} {g b : Nat} (h : Cur w g b) (he : Ext w w') : Cur w' g b := by
  obtain ⟨A, n, c, i, s, l, h1, h2, h3, h4, h5, h6, h7⟩ := h
  exact ⟨A, n, c, i, s, l, he.own h1, h2, h3, h4, h5.ext he, h6, h7⟩
theorem grown_refl (w : World) (g : Option Nat) : w.grownBy w g := World.grownBy.refl w g
theorem grown_trans {a b c : World} {g : Option Nat} (h : a.grownBy b g) (k : b.grownBy c g) : a.grownBy c g :=
  ⟨k.os.trans h.os, k.tape.trans h.tape, k.output.trans h.output, Nat.le_trans h.size k.size, fun i hi hne => (k.block i (Nat.lt_of_lt_of_le hi h.size) hne).trans (h.block i hi hne)⟩
theorem grown_of_ext {a b : World} {g : Option Nat} (h : Ext a b) : a.grownBy b g := grown_ext (grown_refl a g) h
/-- Growth of a new block counts for nothing. -/
theorem grown_new {a b c : World} {g o : Option Nat} (h : a.grownBy b g) (k : b.grownBy c o) (ho : ∀ q, o = some q → a.heap.size ≤ q) : a.grownBy c g :=
  ⟨k.os.trans h.os, k.tape.trans h.tape, k.output.trans h.output, Nat.le_trans h.size k.size, fun i hi hne => (k.block i (Nat.lt_of_lt_of_le hi h.size) (fun e => by have := ho i e.symm; omega)).trans (h.block i hi hne)⟩
theorem Low.off {A : Option Addr} {g : Nat} (h : Low A g) : Off A g := fun b o s e => by have := h b o s e; omega
/-- A reading apart from the grown block goes on. -/
theorem Rd.grownO {w w' : World} {A : Option Addr} {n size : Nat} {cs : List Value} {o : Option Nat} (h : Rd w A n size cs) (hg : w.grownBy w' o) (ho : 0 < n → ∀ q, o = some q → Off A q) : Rd w' A n size cs := by
  refine ⟨h.1, fun hn => ?_⟩
  obtain ⟨b, off, e, hb, hc⟩ := h.2 hn
  refine ⟨b, off, e, Nat.lt_of_lt_of_le hb hg.size, fun j u hu => ?_⟩
  rw [World.cell?_of_block (hg.block b hb (fun e2 => ho hn b e2.symm b off none e rfl))]
  exact hc j u hu
theorem Rd.grown {w w' : World} {A : Option Addr} {n size g : Nat} {cs : List Value} (h : Rd w A n size cs) (hg : w.grownBy w' (some g)) (ho : Off A g) : Rd w' A n size cs :=
  h.grownO hg (fun _ q e => by injection e with e; subst e; exact ho)
theorem Cur.kept {w w' : World} {g b : Nat} {o : Option Nat} (h : Cur w g b) (hg : w.grownBy w' o) (ho : ∀ q, o = some q → g < q) : Cur w' g b := by
  obtain ⟨A, n, c, i, s, l, h1, h2, h3, h4, h5, h6, h7⟩ := h
  refine ⟨A, n, c, i, s, l, h1.kept hg ?_, h2, h3, h4, h5.grownO hg (fun hn q e b x s' e2 => by have := h7 hn b x s' e2; have := ho q e; omega), h6, h7⟩
  right
  intro e
  have := ho g e.symm
  omega
theorem Rd.byte {w : World} {A : Option Addr} {n k : Nat} {l : List Int} (h : Rd w A n 1 (bys l)) (hk : k < n) :
    ∃ b off x, A = some ⟨b, off, none⟩ ∧ b < w.heap.size ∧ x ∈ l ∧ w.cell? ⟨b, off + k, none⟩ = some (.int .u8 x) := by
  obtain ⟨b, off, e, hb, hc⟩ := h.2 (by omega)
  have hl : k < l.length := by have := h.1; simp [bys] at this; omega
  exact ⟨b, off, l[k], e, hb, List.getElem_mem hl, hc k _ (by simp [bys, List.getElem?_eq_getElem hl])⟩
theorem hg_block {w w' : World} {g b : Nat} (h : w.grownBy w' (some g)) (hlt : b < w.heap.size) (hne : b ≠ g) : w'.heap[b]? = w.heap[b]? := h.block b hlt (fun e => hne (by injection e))
theorem cell_keep {w w' : World} {g b o : Nat} {u : Value} (h : w.grownBy w' (some g)) (hne : b ≠ g) (hc : w.cell? ⟨b, o, none⟩ = some u) : w'.cell? ⟨b, o, none⟩ = some u := by
  have hlt : b < w.heap.size := World.block_lt_of_cell? w _ hc
  exact (World.cell?_of_block (hg_block h hlt hne)).trans hc
theorem frz_keep {w w' : World} {g b o : Nat} (h : w.grownBy w' (some g)) (hne : b ≠ g) (hlt : b < w.heap.size) (hc : w.frozen? ⟨b, o, none⟩ = false) : w'.frozen? ⟨b, o, none⟩ = false :=
  (World.frozen?_of_block (hg_block h hlt hne)).trans hc
def PickIn (k : Int) (v : Value) (w : World) : Prop := ∃ r : Int, v = .int .i64 r ∧ 0 ≤ r ∧ (r < k ∨ r = 0)
def BoolIn (v : Value) (w : World) : Prop := ∃ r : Bool, v = .bool r
/-- The bytes that a statement draws from. -/
structure CodeOk (w : World) (A : Option Addr) (n : Nat) (l : List Int) : Prop where
  small : n ≤ maxLen
  rd : Rd w A n 1 (bys l)
  bd : ∀ x ∈ l, 0 ≤ x ∧ x ≤ 255
theorem CodeOk.ext {w w' : World} {A : Option Addr} {n : Nat} {l : List Int} (h : CodeOk w A n l) (he : Ext w w') : CodeOk w' A n l := ⟨h.small, h.rd.ext he, h.bd⟩
/-- The cursor at the beginning. -/
theorem CodeOk.cur {w : World} {A : Option Addr} {n : Nat} {l : List Int} (h : CodeOk w A n l) (c : Nat) : Cur (w.alloc (.cells #[.slice A n c, .int .i64 0, .int .u64 0] 57)) w.heap.size 0 := by
  refine ⟨A, n, c, 0, 0, l, ?_, Int.le_refl _, Int.le_refl _, h.small, h.rd.ext ((Ext.refl w).alloc _), h.bd, fun hn b o s e => ?_⟩
  · exact ⟨by simp, .inr ⟨w.heap.size, 1, #[.slice A n c, .int .i64 0, .int .u64 0], rfl, Nat.le_refl _, heap_alloc_new w _, Nat.le_refl _, by unfold maxLen; omega, by simp, by simp⟩⟩
  · obtain ⟨b', o', e', hb, _⟩ := h.rd.2 hn
    rw [e] at e'
    injection e' with e'
    injection e' with e1
    omega
/-- All that a draw changes is new. -/
theorem ext_of_cur {w w' : World} {o : Obj} (h : (w.alloc o).grownBy w' (some w.heap.size)) : Ext w w' := ((Ext.refl w).alloc o).row h (Nat.le_refl _)
/-- A list that is being built while choices are taken: the cursor, the list's row, and that nothing else of what was there has changed. -/
structure DSt (w0 : World) (g b T size : Nat) (A : Option Addr) (n c : Nat) (cs : List Value) (w : World) : Prop where
  cur : Cur w g b
  row : w.ownsRow w0.heap.size T size (.slice A n c) n cs
  grown : w0.grownBy w (some g)
  hg : g < w0.heap.size
section
variable {w0 w w' : World} {g b T size n c : Nat} {A : Option Addr} {cs : List Value}
theorem DSt.step (h : DSt w0 g b T size A n c cs w) (he : Ext w w') : DSt w0 g b T size A n c cs w' := ⟨h.cur.ext he, he.own h.row, grown_trans h.grown (grown_of_ext he), h.hg⟩
theorem DSt.draw (h : DSt w0 g b T size A n c cs w) {b' : Nat} (hc : Cur w' g b') (hg : w.grownBy w' (some g)) : DSt w0 g b' T size A n c cs w' := by
  refine ⟨hc, h.row.kept hg ?_, grown_trans h.grown hg, h.hg⟩
  rcases hv : Value.ownBlock (.slice A n c) with _ | q
  · exact .inl rfl
  · right
    intro e
    have h1 := (h.row.lt q hv).1
    have h2 := h.hg
    injection e with e
    omega
theorem DSt.app (h : DSt w0 g b T size A n c cs w) {A' : Option Addr} {m c' : Nat} {cs' : List Value} (hr : w'.ownsRow w0.heap.size T size (.slice A' m c') m cs') (hg : w.grownBy w' (Value.ownBlock (.slice A n c))) : DSt w0 g b T size A' m c' cs' w' :=
  ⟨h.cur.kept hg (fun q hq => by have := (h.row.lt q hq).1; have := h.hg; omega), hr, grown_new h.grown hg (fun q hq => (h.row.lt q hq).1), h.hg⟩
theorem DSt.mono (h : DSt w0 g b T size A n c cs w) {b' : Nat} (hb : b ≤ b') : DSt w0 g b' T size A n c cs w := ⟨h.cur.mono hb, h.row, h.grown, h.hg⟩
theorem DSt.sz_le (h : DSt w0 g b T size A n c cs w) : w0.heap.size ≤ w.heap.size := h.grown.size
theorem DSt.off (h : DSt w0 g b T size A n c cs w) : Off A g := fun b x s e => by
  subst e
  have := (h.row.lt b rfl).1
  have := h.hg
  omega
end

theorem u64_wrap_bd (z : Int) : 0 ≤ IntKind.u64.wrap z ∧ IntKind.u64.wrap z < 18446744073709551616 := by
  rw [IntKind.wrap_u64]; omega
theorem byte_and {z : Int} (h : 0 ≤ z ∧ z < 18446744073709551616) : 0 ≤ wrap64 (bits BinOp.and IntKind.u64 (z / 1099511627776) 255) ∧ wrap64 (bits BinOp.and IntKind.u64 (z / 1099511627776) 255) ≤ 255 := by
  obtain ⟨a, ha⟩ : ∃ a : Nat, z / 1099511627776 = a := ⟨(z / 1099511627776).toNat, by omega⟩
  have h1 := bits_and_u64_nat a 255 (by omega) (by omega)
  have h2 : a &&& 255 ≤ 255 := Nat.and_le_right
  rw [ha, show (255 : Int) = ((255 : Nat) : Int) from rfl, h1]
  unfold wrap64
  omega
set_option maxRecDepth 100000 in
set_option maxHeartbeats 1000000 in
theorem next_any (g b : Nat) (w : World) (h : Cur w g b) (hb : b ≤ 1000000000) :
    Calls Tryd.prog 65 #[.pointer (some ⟨g, 0, none⟩)] w (CurPost g (b + 1) w (IntIn 0 255)) := by
  obtain ⟨A, n, c, i, s, l, h1, h2, h3, h4, h5, h6, h7⟩ := h
  unfold maxLen at h4
  obtain ⟨i, rfl⟩ : ∃ k : Nat, i = k := ⟨i.toNat, by omega⟩
  have g0 := own_at (j := 0) h1 rfl
  have g1 := own_at (j := 1) h1 rfl
  have g2 := own_at (j := 2) h1 rfl
  have hlt := (h1.lt g rfl).2
  have HO := Lib.hid h1
  have H5 := Lib.hid h5
  have H6 := Lib.hid h6
  clear h1
  by_cases hin : i < n
  · obtain ⟨bb, off, x, rfl, hbb, hx, gx⟩ := h5.byte hin
    have hxb := h6 x hx
    have hne : bb ≠ g := Nat.ne_of_lt (h7 (by omega) bb off none rfl)
    have hd : decide ((i : Int) < n) = true := by simp; omega
    clear h6 hx h5
    go_enter Tryd.func65, Tryd.ntmps65
    go_wp2
    (refine wp_region_ext_lit (by kernel_rfl) (by kernel_rfl) ?_; (repeat (go_big_quiet_step ((fail)))); refine wpQuiet_nil ?_; rintro wq ⟨⟨_, heq⟩, rfl⟩; (try dsimp only))
    have k0 := heq.cell1 g0
    have k1 := heq.cell1 g1
    have kx := heq.cell1 gx
    have kg : g < wq.heap.size := World.block_lt_of_cell? wq _ k0
    have kb : bb < wq.heap.size := World.block_lt_of_cell? wq _ kx
    have H1 := Lib.hid heq
    clear g0 g1 gx heq
    go_wp2
    (refine wp_region_ext_lit (by kernel_rfl) (by kernel_rfl) ?_; (repeat (go_big_quiet_step ((fail)))); refine wpQuiet_nil ?_; rintro wq ⟨⟨_, heq⟩, rfl⟩; (try dsimp only))
    have HQ := Lib.hid ((H1.out.trans heq).own HO.out)
    have E2 := Lib.hid (H1.out.trans heq)
    have m1 := own_at HQ.out (j := 1) rfl
    have m2 := own_at HQ.out (j := 2) rfl
    have n1 := HQ.out.frozenAt 1
    have n2 := HQ.out.frozenAt 2
    have mg : g < wq.heap.size := World.block_lt_of_cell? wq _ m1
    clear k0 k1 kx kg kb heq g2 hlt
    go_wp2
    have s1 := HQ.out.stored 1 (.int .i64 ((i : Int) + 1))
    have s2 := s1.1.stored 2 (.int .u64 (IntKind.u64.wrap (IntKind.u64.wrap (IntKind.u64.wrap (s * 6364136223846793005) + x) + 381907)))
    have GQ := Lib.hid (grown_trans (grown_of_ext (g := some g) E2.out) (grown_trans s1.2 s2.2))
    have R2 := Lib.hid s2.1
    clear s1 s2 m1 m2 n1 n2 mg
    simp only [List.set_cons_succ, List.set_cons_zero] at R2
    have hsd := u64_wrap_bd (IntKind.u64.wrap (IntKind.u64.wrap (s * 6364136223846793005) + x) + 381907)
    generalize IntKind.u64.wrap (IntKind.u64.wrap (IntKind.u64.wrap (s * 6364136223846793005) + x) + 381907) = sd at *
    generalize (wq.setCell ⟨g, 1, none⟩ (.int .i64 ((i : Int) + 1))).setCell ⟨g, 2, none⟩ (.int .u64 sd) = W2 at *
    have p0 := own_at R2.out (j := 0) rfl
    have p1 := own_at R2.out (j := 1) rfl
    have p2 := own_at R2.out (j := 2) rfl
    have pg : g < W2.heap.size := World.block_lt_of_cell? W2 _ p0
    have hd2 : decide ((i : Int) + 1 ≤ n) = true := by simp; omega
    (refine wp_region_ext_lit (by kernel_rfl) (by kernel_rfl) ?_; (repeat (go_big_quiet_step ((fail)))); refine wpQuiet_nil ?_; rintro wq ⟨⟨_, heq⟩, rfl⟩; (try dsimp only))
    have HC := Lib.hid (show Cur wq g (b + 1) from ⟨some ⟨bb, off, none⟩, n, c, (i : Int) + 1, sd, l, heq.own R2.out, by omega, by omega, by unfold maxLen; omega, (H5.out.grownO GQ.out (fun hn q e => by injection e with e; subst e; exact (h7 hn).off)).ext heq, H6.out, h7⟩)
    have HG := Lib.hid (grown_trans GQ.out (grown_of_ext (g := some g) heq))
    go_wp2
    go_ret
    exact ⟨_, rfl, ⟨x, rfl, hxb.1, hxb.2⟩, HC.out, HG.out⟩
  · have hd : decide ((i : Int) < n) = false := by simp; omega
    clear h5 h6
    go_enter Tryd.func65, Tryd.ntmps65
    go_wp2
    (refine wp_region_ext_lit (by kernel_rfl) (by kernel_rfl) ?_; (repeat (go_big_quiet_step ((fail)))); refine wpQuiet_nil ?_; rintro wq ⟨⟨_, heq⟩, rfl⟩; (try dsimp only))
    have HQ := Lib.hid (heq.own HO.out)
    have E2 := Lib.hid heq
    have m1 := own_at HQ.out (j := 1) rfl
    have m2 := own_at HQ.out (j := 2) rfl
    have n1 := HQ.out.frozenAt 1
    have n2 := HQ.out.frozenAt 2
    have mg : g < wq.heap.size := World.block_lt_of_cell? wq _ m1
    clear g0 g1 g2 heq hlt
    go_wp2
    have s1 := HQ.out.stored 1 (.int .i64 ((i : Int) + 1))
    have s2 := s1.1.stored 2 (.int .u64 (IntKind.u64.wrap (IntKind.u64.wrap (IntKind.u64.wrap (s * 6364136223846793005)) + 381907)))
    have GQ := Lib.hid (grown_trans (grown_of_ext (g := some g) E2.out) (grown_trans s1.2 s2.2))
    have R2 := Lib.hid s2.1
    clear s1 s2 m1 m2 n1 n2 mg
    simp only [List.set_cons_succ, List.set_cons_zero] at R2
    have hsd := u64_wrap_bd (IntKind.u64.wrap (IntKind.u64.wrap (s * 6364136223846793005)) + 381907)
    generalize IntKind.u64.wrap (IntKind.u64.wrap (IntKind.u64.wrap (s * 6364136223846793005)) + 381907) = sd at *
    generalize (wq.setCell ⟨g, 1, none⟩ (.int .i64 ((i : Int) + 1))).setCell ⟨g, 2, none⟩ (.int .u64 sd) = W2 at *
    have p0 := own_at R2.out (j := 0) rfl
    have p1 := own_at R2.out (j := 1) rfl
    have p2 := own_at R2.out (j := 2) rfl
    have pg : g < W2.heap.size := World.block_lt_of_cell? W2 _ p0
    have hd2 : decide ((i : Int) + 1 ≤ n) = false := by simp; omega
    (refine wp_region_ext_lit (by kernel_rfl) (by kernel_rfl) ?_; (repeat (go_big_quiet_step ((fail)))); refine wpQuiet_nil ?_; rintro wq ⟨⟨_, heq⟩, rfl⟩; (try dsimp only))
    have HC := Lib.hid (show Cur wq g (b + 1) from ⟨A, n, c, (i : Int) + 1, sd, l, heq.own R2.out, by omega, by omega, by unfold maxLen; omega, (H5.out.grownO GQ.out (fun hn q e => by injection e with e; subst e; exact (h7 hn).off)).ext heq, H6.out, h7⟩)
    have HG := Lib.hid (grown_trans GQ.out (grown_of_ext (g := some g) heq))
    have q2 := own_at (heq.own R2.out) (j := 2) rfl
    have qg : g < wq.heap.size := World.block_lt_of_cell? wq _ q2
    have hba := byte_and hsd
    have HBA := Lib.hid hba
    clear p0 p1 p2 pg heq hsd hba
    go_wp2
    go_ret
    exact ⟨_, rfl, ⟨_, rfl, HBA.out.1, HBA.out.2⟩, HC.out, HG.out⟩

set_option maxRecDepth 100000 in
set_option maxHeartbeats 1000000 in
theorem pick_any (g b : Nat) (k : Int) (w : World) (h : Cur w g b) (hb : b ≤ 999999990) (hk : k ≤ 100000) :
    Calls Tryd.prog 52 #[.pointer (some ⟨g, 0, none⟩), .int .i64 k] w (CurPost g (b + 2) w (PickIn k)) := by
  by_cases h1 : k ≤ 1
  · have hd : decide (k ≤ 1) = true := by simpa using h1
    go_enter Tryd.func52, Tryd.ntmps52
    go_wp2
    go_ret
    exact ⟨_, rfl, ⟨0, rfl, by omega, .inr rfl⟩, h.mono (by omega), grown_refl _ _⟩
  · have hd : decide (k ≤ 1) = false := by simpa using h1
    obtain ⟨k, rfl⟩ : ∃ q : Nat, k = q := ⟨k.toNat, by omega⟩
    by_cases h2 : 200 < (k : Int)
    · have hd2 : decide (200 < (k : Int)) = true := by simpa using h2
      go_enter Tryd.func52, Tryd.ntmps52
      go_wp2_with fail
      refine (next_any g b _ h (by omega)).mono ?_
      rintro e w1 ⟨v, rfl, ⟨r, rfl, r1, r2⟩, c1, g1⟩
      go_wp2_with fail
      refine (next_any g (b + 1) _ c1 (by omega)).mono ?_
      rintro e w2 ⟨v, rfl, ⟨s, rfl, s1, s2⟩, c2, g2⟩
      go_wp2
      go_ret
      exact ⟨_, rfl, ⟨(r * 256 + s) % k, rfl, Int.emod_nonneg _ (by omega), .inl (Int.emod_lt_of_pos _ (by omega))⟩, c2, grown_trans g1 g2⟩
    · have hd2 : decide (200 < (k : Int)) = false := by simpa using h2
      go_enter Tryd.func52, Tryd.ntmps52
      go_wp2_with fail
      refine (next_any g b _ h (by omega)).mono ?_
      rintro e w1 ⟨v, rfl, ⟨r, rfl, r1, r2⟩, c1, g1⟩
      go_wp2
      go_ret
      exact ⟨_, rfl, ⟨r % k, rfl, Int.emod_nonneg _ (by omega), .inl (Int.emod_lt_of_pos _ (by omega))⟩, c1.mono (by omega), g1⟩


set_option maxRecDepth 100000 in
set_option maxHeartbeats 1000000 in
theorem among_any (g b : Nat) (A : Option Addr) (n c : Nat) (l : List Int) (lo hi : Int) (w : World) (h : Cur w g b) (hl : ∀ x ∈ l, lo ≤ x ∧ x ≤ hi) (hb : b ≤ 999999990) (hn : 0 < n) (hn2 : n ≤ 100000) (hr : Rd w A n 1 (ints l)) (ho : Off A g) :
    Calls Tryd.prog 54 #[.pointer (some ⟨g, 0, none⟩), .slice A n c] w (CurPost g (b + 2) w (IntIn lo hi)) := by
  have HL := Lib.hid hl
  clear hl
  go_enter Tryd.func54, Tryd.ntmps54
  go_wp2_with fail
  refine (pick_any g b n _ h hb (by omega)).mono ?_
  rintro e w1 ⟨v, rfl, ⟨r, rfl, r0, r1⟩, c1, g1⟩
  obtain ⟨r, rfl⟩ : ∃ q : Nat, r = q := ⟨r.toNat, by omega⟩
  have hrn : r < n := by omega
  have hrn2 : (r : Int) < n := by omega
  obtain ⟨bb, off, x, rfl, hbb, hx, gx⟩ := (hr.grown g1 ho).int hrn
  go_wp2
  go_ret
  have hx2 := HL.out x (List.mem_of_getElem? hx.out)
  exact ⟨_, rfl, ⟨x, rfl, hx2.1, hx2.2⟩, c1, g1⟩
theorem litRd (w : World) (l : List Int) (T : TypeId) : Rd (w.alloc (.cells (ints l).toArray T)) (some ⟨w.heap.size, 0, none⟩) l.length 1 (ints l) := by
  refine ⟨by simp [ints], fun _ => ⟨w.heap.size, 0, rfl, by simp, fun j u hu => ?_⟩⟩
  rw [Nat.zero_add, cell_of_row _ _ _ _ _ _ (heap_alloc_new w _)]
  simpa using hu
/-- A choice of a list that is written out. -/
theorem among_lit (g b : Nat) (l : List Int) (lo hi : Int) (w : World) (T : TypeId) (h : Cur w g b) (hl : ∀ x ∈ l, lo ≤ x ∧ x ≤ hi) (hb : b ≤ 999999990) (hn : 0 < l.length) (hn2 : l.length ≤ 100000) :
    Calls Tryd.prog 54 #[.pointer (some ⟨g, 0, none⟩), .slice (some ⟨w.heap.size, 0, none⟩) l.length l.length] (w.alloc (.cells (ints l).toArray T)) (CurPost g (b + 2) w (IntIn lo hi)) := by
  have hne : w.heap.size ≠ g := by have := h.lt; omega
  refine (among_any g b _ _ _ l lo hi _ (h.ext ((Ext.refl _).alloc _)) hl hb hn hn2 (litRd w l T) (Off.ne hne)).mono ?_
  rintro e w1 ⟨v, rfl, h1, c1, g1⟩
  exact ⟨v, rfl, h1, c1, grown_trans (grown_of_ext ((Ext.refl _).alloc _)) g1⟩
theorem among_at (g b gl : Nat) (l : List Int) (lo hi : Int) (w : World) (T : TypeId) (h : Cur w g b) (hgl : w.heap.size = gl) (hl : ∀ x ∈ l, lo ≤ x ∧ x ≤ hi) (hb : b ≤ 999999990) (hn : 0 < l.length) (hn2 : l.length ≤ 100000) :
    Calls Tryd.prog 54 #[.pointer (some ⟨g, 0, none⟩), .slice (some ⟨gl, 0, none⟩) l.length l.length] (w.alloc (.cells (ints l).toArray T)) (CurPost g (b + 2) w (IntIn lo hi)) := by
  subst hgl
  exact among_lit g b l lo hi w T h hl hb hn hn2
end Go.Proofs.YtekggbmpogmlcaaDoor

namespace Go.Proofs.YtekggbmpogmlcaaDoor
open Go.RowKit
set_option linter.unusedVariables false
set_option linter.unusedSimpArgs false
attribute [local go_sem] ExtOf.cell

set_option maxHeartbeats 400000 in
theorem vBig_any (A : Option Addr) (n c : Nat) (w : World) (hm : n ≤ maxLen) :
    Calls Tryd.prog 4 #[.slice A n c] w fun e w' => e = .returned (.bool (decide (65536 < (n : Int)))) ∧ w = w' := by
  unfold maxLen at hm
  go_enter Tryd.func4, Tryd.ntmps4
  go_wp2
  go_ret
  exact ⟨ret_bool (by simp), rfl⟩
set_option maxHeartbeats 400000 in
theorem vInts_same (A A' : Option Addr) (n c c' : Nat) (l : List Int) (w : World) (hm : n ≤ 1048576) (hr : Rd w A n 1 (ints l)) (hr' : Rd w A' n 1 (ints l)) :
    Calls Tryd.prog 12 #[.slice A n c, .slice A' n c'] w fun e w' => e = .returned (.bool true) ∧ Ext w w' := by
  go_enter Tryd.func12, Tryd.ntmps12
  go_wp2
  go_loopw [5] (fun i wr => ∃ k : Nat, k ≤ n ∧ i = .int .i64 k ∧ Ext w wr) (fun i _ => n - (intOf i).toNat)
  case atStart => exact ⟨0, Nat.zero_le _, rfl, Ext.refl _⟩
  case round =>
    obtain ⟨k, hk, rfl, he⟩ := hrel
    by_cases hlt : k < n
    · obtain ⟨b, off, x, rfl, hb, hx, g0⟩ := (hr.ext he).int hlt
      obtain ⟨b', off', y, rfl, hb', hy, q0⟩ := (hr'.ext he).int hlt
      obtain rfl : x = y := by have := hx.out.symm.trans hy.out; injection this
      clear hr hr'
      go_wp2
      (refine wp_region_ext_lit (by kernel_rfl) (by kernel_rfl) ?_; (repeat (go_big_quiet_step ((fail)))); refine wpQuiet_nil ?_; rintro wq ⟨⟨_, heq⟩, rfl⟩; (try dsimp only))
      go_wp2
      go_roundw
      case rel => exact ⟨k + 1, by omega, by go_num, he.trans heq⟩
      case measure => simp [intOf]; omega
    · obtain rfl : k = n := by omega
      go_wp2
      go_ret
      exact ⟨rfl, he⟩
end Go.Proofs.YtekggbmpogmlcaaDoor

namespace Go.Proofs.YtekggbmpogmlcaaDoor
open Go.ChangeShapes Go.WideShapes Go.RowKit Go.Deep
set_option linter.unusedVariables false
set_option linter.unusedSimpArgs false
theorem bys_flat (l : List Int) : bys l = l.flatMap (fun v => [Value.int .u8 v]) := by
  induction l with
  | nil => rfl
  | cons a l ih => simp only [bys, List.map_cons, List.flatMap_cons] at *; rw [ih]; rfl
section
variable {H : Type} {enc : TypeId × Value → H} {P : Program} {w : World} {base : Nat} {spare : Nat → Bool} {held : Bool}
theorem trod_bytes {t e : TypeId} {fuel : Nat} {u : Value} {y : DataW H × List MemPlace} (ht : P.underlying t = some (.slice e)) (he : P.underlying e = some (.int .u8)) (hC : P.cellsOf e = 1)
    (hf' : DataW.trod enc P w base spare held fuel t [u] = some y) :
    ∃ (A : Option Addr) (n c : Nat) (xs : List Int), u = .slice A n c ∧ n ≤ c ∧ c ≤ maxLen ∧ xs.length = n ∧ (∀ x ∈ xs, (Lit.int .u8 x).wf = true) ∧ Rd w A n 1 (bys xs) := by
  rcases open_slice ht hf' with ⟨hcs, _⟩ | ⟨a, n, c, m, n', D, Pl, hcs, hb, hl, hm, hmm, hx, hi⟩
  · simp at hcs
    exact ⟨none, 0, 0, [], hcs, Nat.le_refl _, Nat.zero_le _, rfl, by simp, Rd.nil _ _ _⟩
  · simp at hcs
    obtain ⟨xs, h1, h2, h3⟩ := rd_of (w := w) (a := a) (n := n) (f := fun v => [Value.int .u8 v]) (G := fun x => (Lit.int .u8 x).wf = true) (by decide : 0 < 1) (fun _ => rfl) (fun i hi' => by
      obtain ⟨cs', hc, ht'⟩ := hi i (by rw [hmm]; split <;> omega)
      rw [hC] at hc
      obtain ⟨_, hcl, hat⟩ := World.cells?_some hc
      obtain ⟨u, rfl⟩ : ∃ u, cs' = [u] := by
        match cs', hcl with
        | [u], _ => exact ⟨u, rfl⟩
      obtain ⟨x, rfl, hw⟩ := trod_u8 he ht'
      refine ⟨x, hw, fun j u hu => ?_⟩
      have hj : j < 1 := (List.getElem?_eq_some_iff.1 hu).1
      have := hat j hj
      rw [hu] at this
      rw [← Go.Deep.add_add]
      exact this)
    exact ⟨some a, n, c, xs, hcs, hl, hm, h1, h2, by rw [bys_flat]; exact h3⟩
theorem open_bytesP {r : Reach} {b0 : Nat} {t e : TypeId} {v : Value} {d : DataW H} {p : List MemPlace} (ht : P.underlying t = some (.slice e)) (he : P.underlying e = some (.int .u8)) (hC : P.cellsOf e = 1)
    (hv : Value.okWide P w r b0 t v) (h : DataW.Trod enc P w base spare held t v d p) :
    ∃ (A : Option Addr) (n c : Nat) (xs : List Int), v = .slice A n c ∧ n ≤ c ∧ c ≤ maxLen ∧ xs.length = n ∧ (∀ x ∈ xs, (Lit.int .u8 x).wf = true) ∧ Rd w A n 1 (bys xs) := by
  obtain ⟨A, n, c, rfl⟩ := okWide_slice ht hv
  obtain ⟨fuel, hf'⟩ := h
  exact trod_bytes ht he hC hf'
set_option maxRecDepth 100000 in
theorem open_bytes {r : Reach} {b0 : Nat} {v : Value} {d : DataW H} {p : List MemPlace} (hv : Value.okWide Tryd.prog w r b0 22 v) (h : DataW.Trod enc Tryd.prog w base spare held 22 v d p) :
    ∃ (A : Option Addr) (n c : Nat) (xs : List Int), v = .slice A n c ∧ n ≤ c ∧ c ≤ maxLen ∧ xs.length = n ∧ (∀ x ∈ xs, (Lit.int .u8 x).wf = true) ∧ Rd w A n 1 (bys xs) :=
  open_bytesP Tryd.underlying22 Tryd.underlying5 (by kernel_rfl) hv h
theorem codeOk {A : Option Addr} {n c : Nat} {l : List Int} (h1 : n ≤ c) (h2 : c ≤ maxLen) (h3 : ∀ x ∈ l, (Lit.int .u8 x).wf = true) (h4 : Rd w A n 1 (bys l)) : CodeOk w A n l :=
  ⟨Nat.le_trans h1 h2, h4, fun x hx => bounds_u8 (h3 x hx)⟩
end
end Go.Proofs.YtekggbmpogmlcaaDoor

namespace Go.Proofs.YtekggbmpogmlcaaDoor
open Go.RowKit
set_option linter.unusedVariables false
set_option linter.unusedSimpArgs false
attribute [local go_sem] ExtOf.cell

end Go.Proofs.YtekggbmpogmlcaaDoor

namespace Go.Proofs.YtekggbmpogmlcaaDoor
open Go.RowKit
set_option linter.unusedVariables false
set_option linter.unusedSimpArgs false
attribute [local go_sem] ExtOf.cell

theorem tabInt : (27 : Nat) ≠ 3 := by decide
theorem banInt : (61 : Nat) ≠ 3 := by decide
theorem ints_snoc (l : List Int) (x : Int) : ints l ++ [.int .i64 x] = ints (l ++ [x]) := by simp [ints]
theorem one_intc (x : Int) : ∀ u ∈ [Value.int .i64 x], u.oneCell' = true := fun u hu => by
  simp only [List.mem_singleton] at hu; subst hu; rfl
theorem one_int (w : World) (x : Int) (p j : Nat) {u : Value} (hp : p = w.heap.size) (h : ([.int .i64 x] : List Value)[j]? = some u) : (w.alloc (.cells #[.int .i64 x] 3)).cell? ⟨p, j, none⟩ = some u := by
  subst hp
  exact own_at (own_block w 3 [.int .i64 x]) h
theorem own_cur {w0 w : World} {T size n g : Nat} {v : Value} {cs : List Value} (h : w.ownsRow w0.heap.size T size v n cs) (hg : g < w0.heap.size) : v.ownBlock = none ∨ v.ownBlock ≠ some g := by
  rcases hv : v.ownBlock with _ | q
  · exact .inl rfl
  · right
    intro e
    have h1 := (h.lt q hv).1
    injection e with e
    omega
def smallI (a : Int) : Prop := -100000 ≤ a ∧ a ≤ 100000
theorem smI (a : Int) (h1 : -100000 ≤ a) (h2 : a ≤ 100000) : smallI a := ⟨h1, h2⟩
theorem wf_i64 {a : Int} (h : smallI a) : (Lit.int .i64 a).wf = true := by
  have e1 : IntKind.i64.min = -9223372036854775808 := rfl
  have e2 : IntKind.i64.max = 9223372036854775807 := rfl
  unfold smallI at h
  simp [Lit.wf, e1, e2]; omega
def BanSm (x : Ban) : Prop := smallI x.A ∧ smallI x.X ∧ smallI x.B ∧ smallI x.Y
theorem BanSm.wf {x : Ban} (h : BanSm x) : x.Wf := ⟨wf_i64 h.1, wf_i64 h.2.1, wf_i64 h.2.2.1, wf_i64 h.2.2.2⟩
/-- A table that is being drawn: its box, its two rows, the cursor. -/
structure KSt (w0 : World) (g b gt : Nat) (A : Option Addr) (n c : Nat) (B : Option Addr) (m d : Nat) (ss : List Int) (bs : List Ban) (w : World) : Prop where
  cur : Cur w g b
  box : w.ownsRow w0.heap.size 27 2 (.slice (some ⟨gt, 0, none⟩) 1 1) 1 [.slice A n c, .slice B m d]
  rs : w.ownsRow w0.heap.size 3 1 (.slice A n c) n (ints ss)
  rb : w.ownsRow w0.heap.size 61 4 (.slice B m d) m (bs.flatMap Ban.cs)
  grown : w0.grownBy w (some g)
  hg : g < w0.heap.size
  hgt : w0.heap.size < gt
  res : w.ownsRow w0.heap.size 27 2 (.slice (some ⟨w0.heap.size, 0, none⟩) 1 1) 1 [.slice none 0 0, .slice none 0 0]
section
variable {w0 w w' : World} {g b gt n c m d : Nat} {A B : Option Addr} {ss : List Int} {bs : List Ban}
theorem KSt.step (h : KSt w0 g b gt A n c B m d ss bs w) (he : Ext w w') : KSt w0 g b gt A n c B m d ss bs w' :=
  ⟨h.cur.ext he, he.own h.box, he.own h.rs, he.own h.rb, grown_trans h.grown (grown_of_ext he), h.hg, h.hgt, he.own h.res⟩
theorem KSt.draw (h : KSt w0 g b gt A n c B m d ss bs w) {b' : Nat} (hc : Cur w' g b') (hg : w.grownBy w' (some g)) : KSt w0 g b' gt A n c B m d ss bs w' :=
  ⟨hc, h.box.kept hg (own_cur h.box h.hg), h.rs.kept hg (own_cur h.rs h.hg), h.rb.kept hg (own_cur h.rb h.hg), grown_trans h.grown hg, h.hg, h.hgt, h.res.kept hg (own_cur h.res h.hg)⟩
theorem KSt.mono (h : KSt w0 g b gt A n c B m d ss bs w) {b' : Nat} (hb : b ≤ b') : KSt w0 g b' gt A n c B m d ss bs w := ⟨h.cur.mono hb, h.box, h.rs, h.rb, h.grown, h.hg, h.hgt, h.res⟩
/-- The sizes have grown, and the box holds them. -/
theorem KSt.sized (h : KSt w0 g b gt A n c B m d ss bs w) {A' : Option Addr} {n' c' : Nat} {ss' : List Int} (hr : w'.ownsRow w0.heap.size 3 1 (.slice A' n' c') n' (ints ss')) (hg : w.grownBy w' (Value.ownBlock (.slice A n c))) :
    KSt w0 g b gt A' n' c' B m d ss' bs (w'.setCell ⟨gt, 0, none⟩ (.slice A' n' c')) := by
  have hb := h.box.kept hg (own_types h.box h.rs tabInt)
  have hs := hb.stored 0 (.slice A' n' c')
  have hq : w0.heap.size ≤ gt := (h.box.lt gt rfl).1
  refine ⟨(h.cur.kept hg (fun q hq => ?_)).kept hs.2 (fun q hq => ?_), ?_, hr.kept hs.2 (own_types hr hb (fun e => tabInt e.symm)), (h.rb.kept hg (own_types h.rb h.rs banInt)).kept hs.2 (own_types (h.rb.kept hg (own_types h.rb h.rs banInt)) hb banTab), ?_, h.hg, h.hgt, (h.res.kept hg (own_types h.res h.rs tabInt)).kept hs.2 (.inr (by simp only [Value.ownBlock]; intro e; injection e with e; have := h.hgt; omega))⟩
  · have := (h.rs.lt q hq).1; have := h.hg; omega
  · have hq2 : some gt = some q := hq
    injection hq2 with hq2
    have := h.hg; omega
  · have := hs.1
    simpa using this
  · exact grown_new (grown_new h.grown hg (fun q hq => (h.rs.lt q hq).1)) hs.2 (fun q hq => by
      have hq2 : some gt = some q := hq
      injection hq2 with hq2
      omega)
theorem KSt.other (h : KSt w0 g b gt A n c B m d ss bs w) {q : Nat} {cs : List Value} (ho : w.ownsRow w0.heap.size 27 2 (.slice (some ⟨q, 0, none⟩) 1 1) 1 cs) (hne : gt ≠ q) (hnr : w0.heap.size ≠ q) (hg : w.grownBy w' (some q)) : KSt w0 g b gt A n c B m d ss bs w' := by
  have hq : w0.heap.size ≤ q := (ho.lt q rfl).1
  refine ⟨h.cur.kept hg (fun x hx => ?_), h.box.kept hg (.inr ?_), h.rs.kept hg (own_types h.rs ho (fun e => tabInt e.symm)), h.rb.kept hg (own_types h.rb ho banTab), grown_new h.grown hg (fun x hx => ?_), h.hg, h.hgt, h.res.kept hg (.inr (by simp only [Value.ownBlock]; intro e; injection e with e; exact hnr e))⟩
  · injection hx with hx
    have := h.hg; omega
  · simp only [Value.ownBlock]
    intro e; injection e with e; exact hne e
  · injection hx with hx
    omega
/-- The whole table is replaced. -/
theorem KSt.replaced (h : KSt w0 g b gt A n c B m d ss bs w) {A' B' : Option Addr} {n' c' m' d' : Nat} {ss' : List Int} {bs' : List Ban}
    (hr : w.ownsRow w0.heap.size 3 1 (.slice A' n' c') n' (ints ss')) (hb : w.ownsRow w0.heap.size 61 4 (.slice B' m' d') m' (bs'.flatMap Ban.cs))
    (ho : w'.ownsRow w0.heap.size 27 2 (.slice (some ⟨gt, 0, none⟩) 1 1) 1 [.slice A' n' c', .slice B' m' d']) (hg : w.grownBy w' (some gt)) : KSt w0 g b gt A' n' c' B' m' d' ss' bs' w' := by
  refine ⟨h.cur.kept hg (fun x hx => ?_), ho, hr.kept hg (own_types hr h.box (fun e => tabInt e.symm)), hb.kept hg (own_types hb h.box banTab), grown_new h.grown hg (fun x hx => ?_), h.hg, h.hgt, h.res.kept hg (.inr (by simp only [Value.ownBlock]; intro e; injection e with e; have := h.hgt; omega))⟩
  · injection hx with hx
    have := h.hg; have := h.hgt; omega
  · injection hx with hx
    have := h.hgt; omega
theorem KSt.tab (h : KSt w0 g b gt A n c B m d ss bs w) (hs : Hid (∀ x ∈ ss, 0 ≤ x ∧ x ≤ 6)) (hb : Hid (∀ x ∈ bs, BanSm x)) (hn : n ≤ 100) (hm : m ≤ 100) : TabL w A n B m ss bs := by
  have h1 := h.rs.1
  have h2 := h.rb.1
  rw [ints_length] at h1
  rw [flat_length Ban.cs 4 Ban.len] at h2
  exact ⟨by omega, by omega, fun x hx => wf_i64 (smI x (by have := hs.out x hx; omega) (by have := hs.out x hx; omega)), Rd.own h.rs, ⟨by omega, by omega, fun x hx => (hb.out x hx).wf, Rd.own h.rb⟩⟩
/-- The bans have grown, and the box holds them. -/
theorem KSt.banned (h : KSt w0 g b gt A n c B m d ss bs w) {B' : Option Addr} {m' d' : Nat} {bs' : List Ban} (hr : w'.ownsRow w0.heap.size 61 4 (.slice B' m' d') m' (bs'.flatMap Ban.cs)) (hg : w.grownBy w' (Value.ownBlock (.slice B m d))) :
    KSt w0 g b gt A n c B' m' d' ss bs' (w'.setCell ⟨gt, 1, none⟩ (.slice B' m' d')) := by
  have hb := h.box.kept hg (own_types h.box h.rb tabBan)
  have hs := hb.stored 1 (.slice B' m' d')
  have hq : w0.heap.size ≤ gt := (h.box.lt gt rfl).1
  have hrs := h.rs.kept hg (own_types h.rs h.rb (fun e => banInt e.symm))
  refine ⟨(h.cur.kept hg (fun q hq => ?_)).kept hs.2 (fun q hq => ?_), ?_, hrs.kept hs.2 (own_types hrs hb (fun e => tabInt e.symm)), hr.kept hs.2 (own_types hr hb banTab), ?_, h.hg, h.hgt, (h.res.kept hg (own_types h.res h.rb tabBan)).kept hs.2 (.inr (by simp only [Value.ownBlock]; intro e; injection e with e; have := h.hgt; omega))⟩
  · have := (h.rb.lt q hq).1; have := h.hg; omega
  · have hq2 : some gt = some q := hq
    injection hq2 with hq2
    have := h.hg; omega
  · have := hs.1
    simpa using this
  · exact grown_new (grown_new h.grown hg (fun q hq => (h.rb.lt q hq).1)) hs.2 (fun q hq => by
      have hq2 : some gt = some q := hq
      injection hq2 with hq2
      omega)
end
theorem own_le {w : World} {base T size n c : Nat} {A : Option Addr} {cs : List Value} (h : w.ownsRow base T size (.slice A n c) n cs) : n ≤ c := by
  rcases h.2 with ⟨h1, h2⟩ | ⟨g, cap, cur, h1, _, _, h4, _⟩
  · omega
  · injection h1 with _ _ e3; omega
/-- What is drawn: a table of small numbers, its rows its own. -/
def KTab (w : World) (v : Value) (w' : World) : Prop := ∃ (A : Option Addr) (n c : Nat) (B : Option Addr) (m d : Nat) (ss : List Int) (bs : List Ban), v = .agg #[.slice A n c, .slice B m d] ∧ n ≤ 6 ∧ m ≤ 6 ∧ Hid (∀ x ∈ ss, 0 ≤ x ∧ x ≤ 6) ∧ Hid (∀ x ∈ bs, BanSm x) ∧ (∃ q, A = some ⟨q, 0, none⟩) ∧ ((B = none ∧ bs = []) ∨ ∃ q, B = some ⟨q, 0, none⟩) ∧ w'.ownsRow w.heap.size 3 1 (.slice A n c) n (ints ss) ∧ w'.ownsRow w.heap.size 61 4 (.slice B m d) m (bs.flatMap Ban.cs)
def KFin (w0 : World) (g b gt : Nat) (w : World) : Prop := ∃ (A : Option Addr) (n c : Nat) (B : Option Addr) (m d : Nat) (ss : List Int) (bs : List Ban), n ≤ 6 ∧ m ≤ 6 ∧ Hid (∀ x ∈ ss, 0 ≤ x ∧ x ≤ 6) ∧ Hid (∀ x ∈ bs, BanSm x) ∧ (∃ q, A = some ⟨q, 0, none⟩) ∧ ((B = none ∧ bs = []) ∨ ∃ q, B = some ⟨q, 0, none⟩) ∧ KSt w0 g b gt A n c B m d ss bs w
theorem own_list (w : World) (T : TypeId) (l : List Int) (h : l.length ≤ maxLen := by decide) : (w.alloc (.cells (ints l).toArray T)).ownsRow w.heap.size T 1 (.slice (some ⟨w.heap.size, 0, none⟩) l.length l.length) l.length (ints l) :=
  ⟨by simp [ints], .inr ⟨w.heap.size, l.length, (ints l).toArray, rfl, Nat.le_refl _, heap_alloc_new w _, Nat.le_refl _, h, by simp [ints], by rw [Nat.mul_one, List.take_of_length_le (by simp [ints])]⟩⟩
theorem ban_one (x : Ban) : ∀ u ∈ x.cs, u.oneCell' = true := fun u hu => by
  simp only [Ban.cs, List.mem_cons, List.not_mem_nil, or_false] at hu
  rcases hu with rfl | rfl | rfl | rfl <;> rfl
theorem bans_snoc (bs : List Ban) (x : Ban) : bs.flatMap Ban.cs ++ x.cs = (bs ++ [x]).flatMap Ban.cs := by simp [List.flatMap_append]
set_option maxRecDepth 100000 in
set_option maxHeartbeats 8000000 in
theorem kindTable_any (g b : Nat) (w : World) (h : Cur w g b) (hb : b ≤ 100000) :
    Calls Tryd.prog 35 #[.pointer (some ⟨g, 0, none⟩)] w (CurPost g (b + 1000) w (fun v w' => KTab w v w')) := by
  obtain ⟨i0, hi0, hz0v, hzz1, hzz2⟩ := info_parts intInfo
  obtain ⟨i1, hj0, hy0v, hyy1, hyy2⟩ := info_parts infoBan
  have hgw := h.lt
  obtain ⟨w0, hw0⟩ : ∃ w0 : World, w0 = w := ⟨_, rfl⟩
  have K0 : KSt w g b (w.heap.size + 1 + 1 + 1) (some ⟨w.heap.size + 1, 0, none⟩) 0 0 (some ⟨w.heap.size + 1 + 1, 0, none⟩) 0 0 [] []
      ((((w.alloc (.cells #[.slice none 0 0, .slice none 0 0] 27)).alloc (.cells #[] 3)).alloc (.cells #[] 61)).alloc (.cells #[.slice (some ⟨w.heap.size + 1, 0, none⟩) 0 0, .slice (some ⟨w.heap.size + 1 + 1, 0, none⟩) 0 0] 27)) := by
    have e1 := own_empty (w.alloc (.cells #[.slice none 0 0, .slice none 0 0] 27)) w.heap.size 3 1 (by simp)
    have e2 := own_empty ((w.alloc (.cells #[.slice none 0 0, .slice none 0 0] 27)).alloc (.cells #[] 3)) w.heap.size 61 4 (by simp; omega)
    have e3 := own_low' (own_block (((w.alloc (.cells #[.slice none 0 0, .slice none 0 0] 27)).alloc (.cells #[] 3)).alloc (.cells #[] 61)) 27 [.slice (some ⟨w.heap.size + 1, 0, none⟩) 0 0, .slice (some ⟨w.heap.size + 1 + 1, 0, none⟩) 0 0]) (show w.heap.size ≤ _ by simp; omega)
    simp only [World.size_alloc] at e1 e2 e3
    exact ⟨h.ext (((((Ext.refl w).alloc _).alloc _).alloc _).alloc _), e3, (((Ext.refl _).alloc _).alloc _).own e1, ((Ext.refl _).alloc _).own e2, grown_of_ext (((((Ext.refl w).alloc _).alloc _).alloc _).alloc _), hgw, by omega, ((((Ext.refl _).alloc _).alloc _).alloc _).own (own_block w 27 [.slice none 0 0, .slice none 0 0])⟩
  have S0 := Lib.hid K0
  clear K0 hw0
  go_enter Tryd.func35, Tryd.ntmps35
  go_wp2_with fail
  refine (pick_any g _ 4 _ S0.out.cur (by omega) (by omega)).mono ?_
  rintro e w1 ⟨v, rfl, ⟨r, rfl, r0, r1⟩, C1, G1⟩
  have S1 := Lib.hid (S0.out.draw C1 G1)
  obtain ⟨r, rfl⟩ : ∃ q : Nat, r = q := ⟨r.toNat, by omega⟩
  have hr4 : r ≤ 3 := by omega
  clear C1 G1 S0 h
  obtain ⟨w0, rfl⟩ : ∃ w0 : World, w0 = w := ⟨_, rfl⟩
  generalize hgt : w0.heap.size + 1 + 1 + 1 = gt at *
  have hgt2 : g < gt := by omega
  clear hgt
  go_upto_block 0 with fail
  go_cut [4] (fun p W => ∃ (A : Option Addr) (n c : Nat) (ss : List Int), n ≤ 4 ∧ Hid (∀ x ∈ ss, 0 ≤ x ∧ x ≤ 6) ∧ (∃ q, A = some ⟨q, 0, none⟩) ∧ KSt w0 g (b + 10) gt A n c (some ⟨w0.heap.size + 1 + 1, 0, none⟩) 0 0 ss [] W)
  case first =>
    go_wp2_with fail
    go_loopw [4] (fun p wr => ∃ (k : Nat) (A : Option Addr) (n c : Nat) (ss : List Int), p = .int .i64 k ∧ k ≤ 4 ∧ n + k ≤ 4 ∧ Hid (∀ x ∈ ss, 0 ≤ x ∧ x ≤ 6) ∧ (∃ q, A = some ⟨q, 0, none⟩) ∧ KSt w0 g (b + 2 + 2 * (4 - k)) gt A n c (some ⟨w0.heap.size + 1 + 1, 0, none⟩) 0 0 ss [] wr) (fun p _ => (intOf p).toNat)
    case atStart => exact ⟨r + 1, _, 0, 0, [], by go_num, by omega, by omega, (fun x hx => by cases hx), ⟨_, rfl⟩, S1.out.mono (by omega)⟩
    case round =>
      obtain ⟨k, A, n, c, ss, rfl, hk, hnk, hss, ⟨q, rfl⟩, hst⟩ := hrel
      have N1 := Lib.hid hst
      clear hst S1
      by_cases hlt : 0 < k
      · have hkd : decide ((0 : Int) < (k : Int)) = true := by simp; omega
        generalize hA : (some ⟨q, 0, none⟩ : Option Addr) = A at *
        clear hA
        go_wp2
        refine wp_region_held_drew (S := fun _ => True) (by kernel_rfl) trivial (fun hHeld => ?_)
        have N2 := Lib.hid (N1.out.step (Ext.refl wr).drew)
        refine wpAnyH_take (i := 0) (v := ?_) rfl (by kernel_rfl) (by kernel_rfl) (by kernel_rfl) (fun _ _ _ h => h) (Or.inl ⟨by rfl, ?_⟩) trivial ?_; rotate_left 1; (focus (intro w hSw; go_simp; (try with_reducible rfl))); (try simp only [Act.put, List.setIfInBounds_toArray, List.set_cons_zero, List.set_cons_succ])
        refine wpAnyH_take (i := 2) (v := ?_) rfl (by kernel_rfl) (by kernel_rfl) (by kernel_rfl) (fun _ _ _ h => h) (Or.inl ⟨by rfl, ?_⟩) trivial ?_; rotate_left 1; (focus (intro w hSw; go_simp; (try with_reducible rfl))); (try simp only [Act.put, List.setIfInBounds_toArray, List.set_cons_zero, List.set_cons_succ])
        refine wpAnyH_ready (rs := [1, 3]) (by kernel_rfl) (by simp) ?_; refine AllReadyH.cons rfl (fun K hK => ?_) (AllReadyH.cons rfl (fun K hK => ?_) (AllReadyH.nil))
        focus
          have cx1 := own_at N2.out.box (j := 0) rfl
          have cz1 : gt < wr.heap.size := by have h9 := World.block_lt_of_cell? wr.drew _ cx1; (try simp only [World.size_alloc, World.size_drew] at h9); exact h9
          go_simp; (try simp only [Act.put, List.setIfInBounds_toArray, List.set_cons_zero, List.set_cons_succ]); (try go_wp2_with fail); refine hK.out _ _ trivial fun _ => ?_; clear hK K; (try simp only [Act.put, List.setIfInBounds_toArray, List.set_cons_zero, List.set_cons_succ])
          clear cx1 cz1
          refine wpAnyH_ready (rs := [3]) (by kernel_rfl) (by simp) ?_; refine AllReadyH.cons rfl (fun K hK => ?_) AllReadyH.nil; go_simp; (try simp only [Act.put, List.setIfInBounds_toArray, List.set_cons_zero, List.set_cons_succ]); (try go_wp2_with (go_at_call 52; refine (pick_any g _ 3 _ N2.out.cur (by omega) (by omega)).mono ?_; rintro e w2 ⟨v, rfl, ⟨r, rfl, r0, r1⟩, C2, G2⟩)); refine hK.out _ _ trivial fun _ => ?_; clear hK K; (try simp only [Act.put, List.setIfInBounds_toArray, List.set_cons_zero, List.set_cons_succ])
          have N2 := Lib.hid (N2.out.draw C2 G2)
          clear C2 G2
          have wu : IntKind.i64.wrap (1 + r) = 1 + r := IntWalk.i64_in _ (by omega)
          refine wpAnyH_take (i := 4) (v := ?_) rfl (by kernel_rfl) (by kernel_rfl) (by kernel_rfl) (fun _ _ _ h => h) (Or.inl ⟨by rfl, ?_⟩) trivial ?_; rotate_left 1; (focus (intro w hSw; go_simp; (try with_reducible rfl))); (try simp only [Act.put, List.setIfInBounds_toArray, List.set_cons_zero, List.set_cons_succ])
          have N3 := Lib.hid (N2.out.step ((Ext.refl (w2)).alloc (.cells #[.int .i64 (1 + r)] 3)))
          refine wpAnyH_ready (rs := [5]) (by kernel_rfl) (by simp) ?_; refine AllReadyH.cons rfl (fun K hK => ?_) AllReadyH.nil; go_simp; (try simp only [Act.put, List.setIfInBounds_toArray, List.set_cons_zero, List.set_cons_succ]); (try go_wp2_with fail); refine hK.out _ _ trivial fun _ => ?_; clear hK K; (try simp only [Act.put, List.setIfInBounds_toArray, List.set_cons_zero, List.set_cons_succ])
          refine wpAnyH_ready (rs := [6]) (by kernel_rfl) (by simp) ?_; refine AllReadyH.cons rfl (fun K hK => ?_) AllReadyH.nil; refine step_app_own rfl (.tmp 21) (.tmp 25) 24 rfl w0.heap.size 3 i0 (.int .i64 0) 1 8 Tryd.underlying24 hi0 hz0v hzz1 hzz2 rfl (by decide) (.slice A n c) n (ints ss) rfl N3.out.rs ⟨w2.heap.size, 0, none⟩ 1 1 [.int .i64 (1 + r)] rfl rfl (fun j u hj => by rw [Addr.add_mid, Nat.zero_add]; exact one_int _ _ _ _ (by simp) hj) (one_intc _) (by unfold maxLen; omega) (by omega) N3.out.grown.size 26 rfl (n + 1) rfl (ints (ss ++ [1 + r])) (ints_snoc _ _) ?_; intro A9 c9 w9 op9 gp9; (try simp only [Act.put, List.setIfInBounds_toArray, List.set_cons_zero, List.set_cons_succ]); refine hK.out _ _ trivial fun _ => ?_; clear hK K; (try simp only [Act.put, List.setIfInBounds_toArray, List.set_cons_zero, List.set_cons_succ])
          have B9 := Lib.hid (N3.out.box.kept gp9 (own_types N3.out.box N3.out.rs tabInt))
          have NS := Lib.hid (N3.out.sized op9 gp9)
          clear op9 gp9
          refine wpAnyH_take (i := 7) (v := ?_) rfl (by kernel_rfl) (by kernel_rfl) (by kernel_rfl) (fun _ _ _ h => h) (Or.inl ⟨by rfl, ?_⟩) trivial ?_; rotate_left 1; (focus (intro w hSw; go_simp; (try with_reducible rfl))); (try simp only [Act.put, List.setIfInBounds_toArray, List.set_cons_zero, List.set_cons_succ])
          have cx9 := own_at B9.out (j := 0) rfl
          have cz9 : gt < w9.heap.size := World.block_lt_of_cell? w9 _ cx9
          have cf9 := B9.out.frozenAt 0
          refine wpAnyH_ready (rs := [8]) (by kernel_rfl) (by simp) ?_; refine AllReadyH.cons rfl (fun K hK => ?_) AllReadyH.nil; go_simp; (try simp only [Act.put, List.setIfInBounds_toArray, List.set_cons_zero, List.set_cons_succ]); (try go_wp2_with fail); refine hK.out _ _ trivial fun _ => ?_; clear hK K; (try simp only [Act.put, List.setIfInBounds_toArray, List.set_cons_zero, List.set_cons_succ])
          clear cx9 cz9 cf9
          refine wpAnyH_done (by kernel_rfl) ?_ _
        rotate_left 1
        focus
          go_simp; (try simp only [Act.put, List.setIfInBounds_toArray, List.set_cons_zero, List.set_cons_succ]); (try go_wp2_with (go_at_call 52; refine (pick_any g _ 3 _ N2.out.cur (by omega) (by omega)).mono ?_; rintro e w1 ⟨v, rfl, ⟨r, rfl, r0, r1⟩, C1, G1⟩)); refine hK.out _ _ trivial fun _ => ?_; clear hK K; (try simp only [Act.put, List.setIfInBounds_toArray, List.set_cons_zero, List.set_cons_succ])
          have N1 := Lib.hid (N2.out.draw C1 G1)
          clear C1 G1
          have wu : IntKind.i64.wrap (1 + r) = 1 + r := IntWalk.i64_in _ (by omega)
          refine wpAnyH_take (i := 4) (v := ?_) rfl (by kernel_rfl) (by kernel_rfl) (by kernel_rfl) (fun _ _ _ h => h) (Or.inl ⟨by rfl, ?_⟩) trivial ?_; rotate_left 1; (focus (intro w hSw; go_simp; (try with_reducible rfl))); (try simp only [Act.put, List.setIfInBounds_toArray, List.set_cons_zero, List.set_cons_succ])
          refine wpAnyH_ready (rs := [1, 5]) (by kernel_rfl) (by simp) ?_; refine AllReadyH.cons rfl (fun K hK => ?_) (AllReadyH.cons rfl (fun K hK => ?_) (AllReadyH.nil))
          focus
            have cx2 := own_at N1.out.box (j := 0) rfl
            have cz2 : gt < w1.heap.size := by have h9 := World.block_lt_of_cell? w1 _ cx2; (try simp only [World.size_alloc, World.size_drew] at h9); exact h9
            go_simp; (try simp only [Act.put, List.setIfInBounds_toArray, List.set_cons_zero, List.set_cons_succ]); (try go_wp2_with fail); refine hK.out _ _ trivial fun _ => ?_; clear hK K; (try simp only [Act.put, List.setIfInBounds_toArray, List.set_cons_zero, List.set_cons_succ])
            clear cx2 cz2
            have N3 := Lib.hid (N1.out.step ((Ext.refl (w1)).alloc (.cells #[.int .i64 (1 + r)] 3)))
            refine wpAnyH_ready (rs := [5]) (by kernel_rfl) (by simp) ?_; refine AllReadyH.cons rfl (fun K hK => ?_) AllReadyH.nil; go_simp; (try simp only [Act.put, List.setIfInBounds_toArray, List.set_cons_zero, List.set_cons_succ]); (try go_wp2_with fail); refine hK.out _ _ trivial fun _ => ?_; clear hK K; (try simp only [Act.put, List.setIfInBounds_toArray, List.set_cons_zero, List.set_cons_succ])
            refine wpAnyH_ready (rs := [6]) (by kernel_rfl) (by simp) ?_; refine AllReadyH.cons rfl (fun K hK => ?_) AllReadyH.nil; refine step_app_own rfl (.tmp 21) (.tmp 25) 24 rfl w0.heap.size 3 i0 (.int .i64 0) 1 8 Tryd.underlying24 hi0 hz0v hzz1 hzz2 rfl (by decide) (.slice A n c) n (ints ss) rfl N3.out.rs ⟨w1.heap.size, 0, none⟩ 1 1 [.int .i64 (1 + r)] rfl rfl (fun j u hj => by rw [Addr.add_mid, Nat.zero_add]; exact one_int _ _ _ _ (by simp) hj) (one_intc _) (by unfold maxLen; omega) (by omega) N3.out.grown.size 26 rfl (n + 1) rfl (ints (ss ++ [1 + r])) (ints_snoc _ _) ?_; intro A9 c9 w9 op9 gp9; (try simp only [Act.put, List.setIfInBounds_toArray, List.set_cons_zero, List.set_cons_succ]); refine hK.out _ _ trivial fun _ => ?_; clear hK K; (try simp only [Act.put, List.setIfInBounds_toArray, List.set_cons_zero, List.set_cons_succ])
            have B9 := Lib.hid (N3.out.box.kept gp9 (own_types N3.out.box N3.out.rs tabInt))
            have NS := Lib.hid (N3.out.sized op9 gp9)
            clear op9 gp9
            refine wpAnyH_take (i := 7) (v := ?_) rfl (by kernel_rfl) (by kernel_rfl) (by kernel_rfl) (fun _ _ _ h => h) (Or.inl ⟨by rfl, ?_⟩) trivial ?_; rotate_left 1; (focus (intro w hSw; go_simp; (try with_reducible rfl))); (try simp only [Act.put, List.setIfInBounds_toArray, List.set_cons_zero, List.set_cons_succ])
            have cx9 := own_at B9.out (j := 0) rfl
            have cz9 : gt < w9.heap.size := World.block_lt_of_cell? w9 _ cx9
            have cf9 := B9.out.frozenAt 0
            refine wpAnyH_ready (rs := [8]) (by kernel_rfl) (by simp) ?_; refine AllReadyH.cons rfl (fun K hK => ?_) AllReadyH.nil; go_simp; (try simp only [Act.put, List.setIfInBounds_toArray, List.set_cons_zero, List.set_cons_succ]); (try go_wp2_with fail); refine hK.out _ _ trivial fun _ => ?_; clear hK K; (try simp only [Act.put, List.setIfInBounds_toArray, List.set_cons_zero, List.set_cons_succ])
            clear cx9 cz9 cf9
            refine wpAnyH_done (by kernel_rfl) ?_ _
          rotate_left 1
          focus
            have N2 := Lib.hid (N1.out.step ((Ext.refl (w1)).alloc (.cells #[.int .i64 (1 + r)] 3)))
            go_simp; (try simp only [Act.put, List.setIfInBounds_toArray, List.set_cons_zero, List.set_cons_succ]); (try go_wp2_with fail); refine hK.out _ _ trivial fun _ => ?_; clear hK K; (try simp only [Act.put, List.setIfInBounds_toArray, List.set_cons_zero, List.set_cons_succ])
            have cx3 := own_at N2.out.box (j := 0) rfl
            have cz3 : gt < w1.heap.size + 1 := by have h9 := World.block_lt_of_cell? (w1.alloc (.cells #[.int .i64 (1 + r)] 3)) _ cx3; (try simp only [World.size_alloc, World.size_drew] at h9); exact h9
            have cy3 := own_at N1.out.box (j := 0) rfl
            have cu3 : gt < w1.heap.size := by have h9 := World.block_lt_of_cell? w1 _ cy3; (try simp only [World.size_alloc, World.size_drew] at h9); exact h9
            have cv3 : ¬ gt = w1.heap.size := by omega
            refine wpAnyH_ready (rs := [1]) (by kernel_rfl) (by simp) ?_; refine AllReadyH.cons rfl (fun K hK => ?_) AllReadyH.nil; go_simp; (try simp only [Act.put, List.setIfInBounds_toArray, List.set_cons_zero, List.set_cons_succ]); (try go_wp2_with fail); refine hK.out _ _ trivial fun _ => ?_; clear hK K; (try simp only [Act.put, List.setIfInBounds_toArray, List.set_cons_zero, List.set_cons_succ])
            clear cx3 cz3 cy3 cu3 cv3
            refine wpAnyH_ready (rs := [6]) (by kernel_rfl) (by simp) ?_; refine AllReadyH.cons rfl (fun K hK => ?_) AllReadyH.nil; refine step_app_own rfl (.tmp 21) (.tmp 25) 24 rfl w0.heap.size 3 i0 (.int .i64 0) 1 8 Tryd.underlying24 hi0 hz0v hzz1 hzz2 rfl (by decide) (.slice A n c) n (ints ss) rfl N2.out.rs ⟨w1.heap.size, 0, none⟩ 1 1 [.int .i64 (1 + r)] rfl rfl (fun j u hj => by rw [Addr.add_mid, Nat.zero_add]; exact one_int _ _ _ _ (by simp) hj) (one_intc _) (by unfold maxLen; omega) (by omega) N2.out.grown.size 26 rfl (n + 1) rfl (ints (ss ++ [1 + r])) (ints_snoc _ _) ?_; intro A9 c9 w9 op9 gp9; (try simp only [Act.put, List.setIfInBounds_toArray, List.set_cons_zero, List.set_cons_succ]); refine hK.out _ _ trivial fun _ => ?_; clear hK K; (try simp only [Act.put, List.setIfInBounds_toArray, List.set_cons_zero, List.set_cons_succ])
            have B9 := Lib.hid (N2.out.box.kept gp9 (own_types N2.out.box N2.out.rs tabInt))
            have NS := Lib.hid (N2.out.sized op9 gp9)
            clear op9 gp9
            refine wpAnyH_take (i := 7) (v := ?_) rfl (by kernel_rfl) (by kernel_rfl) (by kernel_rfl) (fun _ _ _ h => h) (Or.inl ⟨by rfl, ?_⟩) trivial ?_; rotate_left 1; (focus (intro w hSw; go_simp; (try with_reducible rfl))); (try simp only [Act.put, List.setIfInBounds_toArray, List.set_cons_zero, List.set_cons_succ])
            have cx9 := own_at B9.out (j := 0) rfl
            have cz9 : gt < w9.heap.size := World.block_lt_of_cell? w9 _ cx9
            have cf9 := B9.out.frozenAt 0
            refine wpAnyH_ready (rs := [8]) (by kernel_rfl) (by simp) ?_; refine AllReadyH.cons rfl (fun K hK => ?_) AllReadyH.nil; go_simp; (try simp only [Act.put, List.setIfInBounds_toArray, List.set_cons_zero, List.set_cons_succ]); (try go_wp2_with fail); refine hK.out _ _ trivial fun _ => ?_; clear hK K; (try simp only [Act.put, List.setIfInBounds_toArray, List.set_cons_zero, List.set_cons_succ])
            clear cx9 cz9 cf9
            refine wpAnyH_done (by kernel_rfl) ?_ _
          rotate_left 1
        rotate_left 2
        all_goals
          (try simp only [List.getElem_toArray, List.getElem_cons_succ, List.getElem_cons_zero, List.setIfInBounds_toArray, List.set_cons_succ, List.set_cons_zero])
          have hA9 : ∃ q9, A9 = some ⟨q9, 0, none⟩ := by
            obtain ⟨q9, cap, hv, _⟩ := NS.out.rs.form (by omega)
            injection hv with hv
            exact ⟨q9, hv⟩
          have HSS := Lib.hid (show ∀ x ∈ ss ++ [1 + r], 0 ≤ x ∧ x ≤ 6 from fun x hx => by
            rcases List.mem_append.1 hx with hx | hx
            · exact hss.out x hx
            · simp at hx; omega)
          go_wp2
          go_roundw
          case rel => exact ⟨k - 1, A9, n + 1, c9, ss ++ [1 + r], by go_num, by omega, by omega, HSS.out, hA9, NS.out.mono (by omega)⟩
          case measure => simp [intOf]; omega
      · obtain rfl : k = 0 := by omega
        go_wp2
        go_meet
        exact ⟨_, n, c, ss, by omega, hss, ⟨q, rfl⟩, N1.out.mono (by omega)⟩
  case rest =>
    obtain ⟨A, n, c, ss, hn4, hss, ⟨q, rfl⟩, hst⟩ := hcut
    have N1 := Lib.hid hst
    clear hst S1 r0 r1 hr4
    go_wp2_with fail
    refine (pick_any g _ 6 _ N1.out.cur (by omega) (by omega)).mono ?_
    rintro e w2 ⟨v, rfl, ⟨r, rfl, r0, r1⟩, C2, G2⟩
    have N2 := Lib.hid (N1.out.draw C2 G2)
    obtain ⟨r, rfl⟩ : ∃ q : Nat, r = q := ⟨r.toNat, by omega⟩
    have hr5 : r ≤ 5 := by omega
    clear C2 G2 N1 r0 r1
    go_upto_block 2 with fail
    go_cut [5, 6, 7, 8, 9] (fun p s6 s7 s8 s9 W => ∃ (A : Option Addr) (n c : Nat) (B : Option Addr) (m d : Nat) (ss : List Int) (bs : List Ban), n ≤ 4 ∧ m ≤ 5 ∧ Hid (∀ x ∈ ss, 0 ≤ x ∧ x ≤ 6) ∧ Hid (∀ x ∈ bs, BanSm x) ∧ (∃ q, A = some ⟨q, 0, none⟩) ∧ (∃ q, B = some ⟨q, 0, none⟩) ∧ KSt w0 g (b + 100) gt A n c B m d ss bs W)
    case first =>
      go_wp2_with fail
      go_loopw [5] (fun p wr => ∃ (k : Nat) (A : Option Addr) (n c : Nat) (B : Option Addr) (m d : Nat) (ss : List Int) (bs : List Ban), p = .int .i64 k ∧ k ≤ 5 ∧ n ≤ 4 ∧ m + k ≤ 5 ∧ Hid (∀ x ∈ ss, 0 ≤ x ∧ x ≤ 6) ∧ Hid (∀ x ∈ bs, BanSm x) ∧ (∃ q, A = some ⟨q, 0, none⟩) ∧ (∃ q, B = some ⟨q, 0, none⟩) ∧ KSt w0 g (b + 12 + 10 * (5 - k)) gt A n c B m d ss bs wr) (fun p _ => (intOf p).toNat)
      case atStart => exact ⟨r, _, n, c, _, 0, 0, ss, [], rfl, hr5, hn4, by omega, hss, (fun x hx => by cases hx), ⟨q, rfl⟩, ⟨_, rfl⟩, N2.out.mono (by omega)⟩
      case round =>
        obtain ⟨k, A, n, c, B, m, d, ss, bs, rfl, hk, hn4, hmk, hss, hbs, ⟨q, rfl⟩, ⟨q2, rfl⟩, hst⟩ := hrel
        have N1 := Lib.hid hst
        clear hst N2
        have cb0 := own_at N1.out.box (j := 0) rfl
        have zb0 : gt < wr.heap.size := World.block_lt_of_cell? wr _ cb0
        by_cases hlt : 0 < k
        · have hkd : decide ((0 : Int) < (k : Int)) = true := by simp; omega
          have hkd2 : decide (0 < k) = true := by simp; omega
          by_cases hn1 : 1 < n
          · have hnd : decide ((1 : Int) < (n : Int)) = true := by simp; omega
            have hnd2 : decide (1 < n) = true := by simp; omega
            go_wp2_with fail
            refine (pick_any g _ ((n : Int) - 1) _ N1.out.cur (by omega) (by omega)).mono ?_
            rintro e w3 ⟨v, rfl, ⟨a, rfl, a0, a1⟩, C3, G3⟩
            have N3 := Lib.hid (N1.out.draw C3 G3)
            clear C3 G3 cb0 zb0
            obtain ⟨a, rfl⟩ : ∃ q : Nat, a = q := ⟨a.toNat, by omega⟩
            have ha1 : a + 1 < n := by omega
            have cb0 := own_at N3.out.box (j := 0) rfl
            have zb0 : gt < w3.heap.size := World.block_lt_of_cell? w3 _ cb0
            go_wp2_with fail
            refine (pick_any g _ ((n : Int) - 1 - (a : Int)) _ N3.out.cur (by omega) (by omega)).mono ?_
            rintro e w4 ⟨v, rfl, ⟨r, rfl, r0, r1⟩, C4, G4⟩
            have N4 := Lib.hid (N3.out.draw C4 G4)
            clear C4 G4 cb0 zb0 N1 N3
            obtain ⟨r, rfl⟩ : ∃ q : Nat, r = q := ⟨r.toNat, by omega⟩
            have hb1 : a + 1 + r < n := by omega
            have cb0 := own_at N4.out.box (j := 0) rfl
            have zb0 : gt < w4.heap.size := World.block_lt_of_cell? w4 _ cb0
            go_wp2
            rw [show (a : Int) + 1 + (r : Int) = ((a + 1 + r : Nat) : Int) by omega]
            clear r0 r1
            generalize a + 1 + r = bb at *
            have hsl : ss.length = n := by have := N4.out.rs.1; rw [ints_length] at this; omega
            obtain ⟨va, hva⟩ : ∃ va, ss[a]? = some va := ⟨_, List.getElem?_eq_getElem (by omega)⟩
            obtain ⟨vb, hvb⟩ : ∃ vb, ss[bb]? = some vb := ⟨_, List.getElem?_eq_getElem (by omega)⟩
            have va2 := hss.out va (List.mem_of_getElem? hva)
            have vb2 := hss.out vb (List.mem_of_getElem? hvb)
            have hja := ints_get hva
            have hjb := ints_get hvb
            have ia1 : (a : Int) < (n : Int) := by omega
            have ib1 : (bb : Int) < (n : Int) := by omega
            clear hva hvb cb0 zb0
            refine wp_region_held_drew (S := fun w' => w'.cell? ⟨gt, 0, none⟩ = some (.slice (some ⟨q, 0, none⟩) n c) ∧ w'.cell? ⟨gt, 1, none⟩ = some (.slice (some ⟨q2, 0, none⟩) m d) ∧ w'.cell? ⟨q, a, none⟩ = some (.int .i64 va) ∧ w'.cell? ⟨q, bb, none⟩ = some (.int .i64 vb)) (by kernel_rfl) ?_ (fun hHeld => ?_)
            · have N5 := Lib.hid (N4.out.step (Ext.refl w4).drew)
              exact ⟨own_at N5.out.box (j := 0) rfl, own_at N5.out.box (j := 1) rfl, own_at N5.out.rs (j := a) hja, own_at N5.out.rs (j := bb) hjb⟩
            have N5 := Lib.hid (N4.out.step (Ext.refl w4).drew)
            refine wpAnyH_take (i := 0) (v := ?_) rfl (by kernel_rfl) (by kernel_rfl) (by kernel_rfl) (fun _ _ _ h => h) (Or.inl ⟨by rfl, ?_⟩) (by assumption) ?_; rotate_left 1; (focus (intro w hSw; (try dsimp only at hSw); obtain ⟨y0, y1, y2, y3⟩ := hSw; go_simp; (try with_reducible rfl))); (try simp only [Act.put, List.setIfInBounds_toArray, List.set_cons_zero, List.set_cons_succ])
            refine wpAnyH_take (i := 1) (v := ?_) rfl (by kernel_rfl) (by kernel_rfl) (by kernel_rfl) (fun _ _ _ h => h) (Or.inl ⟨by rfl, ?_⟩) (by assumption) ?_; rotate_left 1; (focus (intro w hSw; (try dsimp only at hSw); obtain ⟨y0, y1, y2, y3⟩ := hSw; go_simp; (try with_reducible rfl))); (try simp only [Act.put, List.setIfInBounds_toArray, List.set_cons_zero, List.set_cons_succ])
            refine wpAnyH_take (i := 2) (v := ?_) rfl (by kernel_rfl) (by kernel_rfl) (by kernel_rfl) (fun _ _ _ h => h) (Or.inl ⟨by rfl, ?_⟩) (by assumption) ?_; rotate_left 1; (focus (intro w hSw; (try dsimp only at hSw); obtain ⟨y0, y1, y2, y3⟩ := hSw; go_simp; (try with_reducible rfl))); (try simp only [Act.put, List.setIfInBounds_toArray, List.set_cons_zero, List.set_cons_succ])
            refine wpAnyH_take (i := 3) (v := ?_) rfl (by kernel_rfl) (by kernel_rfl) (by kernel_rfl) (fun _ _ _ h => h) (Or.inl ⟨by rfl, ?_⟩) (by assumption) ?_; rotate_left 1; (focus (intro w hSw; (try dsimp only at hSw); obtain ⟨y0, y1, y2, y3⟩ := hSw; go_simp; (try with_reducible rfl))); (try simp only [Act.put, List.setIfInBounds_toArray, List.set_cons_zero, List.set_cons_succ])
            refine wpAnyH_take (i := 4) (v := ?_) rfl (by kernel_rfl) (by kernel_rfl) (by kernel_rfl) (fun _ _ _ h => h) (Or.inl ⟨by rfl, ?_⟩) (by assumption) ?_; rotate_left 1; (focus (intro w hSw; (try dsimp only at hSw); obtain ⟨y0, y1, y2, y3⟩ := hSw; go_simp; (try with_reducible rfl))); (try simp only [Act.put, List.setIfInBounds_toArray, List.set_cons_zero, List.set_cons_succ])
            refine wpAnyH_take (i := 5) (v := ?_) rfl (by kernel_rfl) (by kernel_rfl) (by kernel_rfl) (fun _ _ _ h => h) (Or.inl ⟨by rfl, ?_⟩) (by assumption) ?_; rotate_left 1; (focus (intro w hSw; (try dsimp only at hSw); obtain ⟨y0, y1, y2, y3⟩ := hSw; go_simp; (try with_reducible rfl))); (try simp only [Act.put, List.setIfInBounds_toArray, List.set_cons_zero, List.set_cons_succ])
            refine wpAnyH_take (i := 6) (v := ?_) rfl (by kernel_rfl) (by kernel_rfl) (by kernel_rfl) (fun _ _ _ h => h) (Or.inl ⟨by rfl, ?_⟩) (by assumption) ?_; rotate_left 1; (focus (intro w hSw; (try dsimp only at hSw); obtain ⟨y0, y1, y2, y3⟩ := hSw; go_simp; (try with_reducible rfl))); (try simp only [Act.put, List.setIfInBounds_toArray, List.set_cons_zero, List.set_cons_succ])
            refine wpAnyH_take (i := 7) (v := ?_) rfl (by kernel_rfl) (by kernel_rfl) (by kernel_rfl) (fun _ _ _ h => h) (Or.inl ⟨by rfl, ?_⟩) (by assumption) ?_; rotate_left 1; (focus (intro w hSw; (try dsimp only at hSw); obtain ⟨y0, y1, y2, y3⟩ := hSw; go_simp; (try with_reducible rfl))); (try simp only [Act.put, List.setIfInBounds_toArray, List.set_cons_zero, List.set_cons_succ])
            refine wpAnyH_take (i := 9) (v := ?_) rfl (by kernel_rfl) (by kernel_rfl) (by kernel_rfl) (fun _ _ _ h => h) (Or.inl ⟨by rfl, ?_⟩) (by assumption) ?_; rotate_left 1; (focus (intro w hSw; (try dsimp only at hSw); obtain ⟨y0, y1, y2, y3⟩ := hSw; go_simp; (try with_reducible rfl))); (try simp only [Act.put, List.setIfInBounds_toArray, List.set_cons_zero, List.set_cons_succ])
            refine wpAnyH_take (i := 10) (v := ?_) rfl (by kernel_rfl) (by kernel_rfl) (by kernel_rfl) (fun _ _ _ h => h) (Or.inl ⟨by rfl, ?_⟩) (by assumption) ?_; rotate_left 1; (focus (intro w hSw; (try dsimp only at hSw); obtain ⟨y0, y1, y2, y3⟩ := hSw; go_simp; (try with_reducible rfl))); (try simp only [Act.put, List.setIfInBounds_toArray, List.set_cons_zero, List.set_cons_succ])
            refine wpAnyH_take (i := 11) (v := ?_) rfl (by kernel_rfl) (by kernel_rfl) (by kernel_rfl) (fun _ _ _ h => h) (Or.inl ⟨by rfl, ?_⟩) (by assumption) ?_; rotate_left 1; (focus (intro w hSw; (try dsimp only at hSw); obtain ⟨y0, y1, y2, y3⟩ := hSw; go_simp; (try with_reducible rfl))); (try simp only [Act.put, List.setIfInBounds_toArray, List.set_cons_zero, List.set_cons_succ])
            refine wpAnyH_take (i := 12) (v := ?_) rfl (by kernel_rfl) (by kernel_rfl) (by kernel_rfl) (fun _ _ _ h => h) (Or.inl ⟨by rfl, ?_⟩) (by assumption) ?_; rotate_left 1; (focus (intro w hSw; (try dsimp only at hSw); obtain ⟨y0, y1, y2, y3⟩ := hSw; go_simp; (try with_reducible rfl))); (try simp only [Act.put, List.setIfInBounds_toArray, List.set_cons_zero, List.set_cons_succ])
            refine wpAnyH_take (i := 13) (v := ?_) rfl (by kernel_rfl) (by kernel_rfl) (by kernel_rfl) (fun _ _ _ h => h) (Or.inl ⟨by rfl, ?_⟩) (by assumption) ?_; rotate_left 1; (focus (intro w hSw; (try dsimp only at hSw); obtain ⟨y0, y1, y2, y3⟩ := hSw; go_simp; (try with_reducible rfl))); (try simp only [Act.put, List.setIfInBounds_toArray, List.set_cons_zero, List.set_cons_succ])
            refine wpAnyH_take (i := 14) (v := ?_) rfl (by kernel_rfl) (by kernel_rfl) (by kernel_rfl) (fun _ _ _ h => h) (Or.inl ⟨by rfl, ?_⟩) (by assumption) ?_; rotate_left 1; (focus (intro w hSw; (try dsimp only at hSw); obtain ⟨y0, y1, y2, y3⟩ := hSw; go_simp; (try with_reducible rfl))); (try simp only [Act.put, List.setIfInBounds_toArray, List.set_cons_zero, List.set_cons_succ])
            refine wpAnyH_take (i := 15) (v := ?_) rfl (by kernel_rfl) (by kernel_rfl) (by kernel_rfl) (fun _ _ _ h => h) (Or.inl ⟨by rfl, ?_⟩) (by assumption) ?_; rotate_left 1; (focus (intro w hSw; (try dsimp only at hSw); obtain ⟨y0, y1, y2, y3⟩ := hSw; go_simp; (try with_reducible rfl))); (try simp only [Act.put, List.setIfInBounds_toArray, List.set_cons_zero, List.set_cons_succ])
            refine wpAnyH_ready (rs := [8, 22]) (by kernel_rfl) (by simp) ?_; refine AllReadyH.cons rfl (fun K hK => ?_) (AllReadyH.cons rfl (fun K hK => ?_) (AllReadyH.nil))
            focus
              go_simp; (try simp only [Act.put, List.setIfInBounds_toArray, List.set_cons_zero, List.set_cons_succ]); (try go_wp2_with (go_at_call 52; refine (pick_any g _ va _ N5.out.cur (by omega) (by omega)).mono ?_; rintro e w20 ⟨v, rfl, ⟨x, rfl, x0, x1⟩, C20, G20⟩; have N20 := Lib.hid (N5.out.draw C20 G20))); refine hK.out _ _ ⟨own_at N20.out.box (j := 0) rfl, own_at N20.out.box (j := 1) rfl, own_at N20.out.rs (j := a) hja, own_at N20.out.rs (j := bb) hjb⟩ fun hHeld => ?_; clear hK K; (try simp only [Act.put, List.setIfInBounds_toArray, List.set_cons_zero, List.set_cons_succ])
              clear C20 G20
              refine wpAnyH_ready (rs := [16, 22]) (by kernel_rfl) (by simp) ?_; refine AllReadyH.cons rfl (fun K hK => ?_) (AllReadyH.cons rfl (fun K hK => ?_) (AllReadyH.nil))
              focus
                go_simp; (try simp only [Act.put, List.setIfInBounds_toArray, List.set_cons_zero, List.set_cons_succ]); (try go_wp2_with (go_at_call 52; refine (pick_any g _ vb _ N20.out.cur (by omega) (by omega)).mono ?_; rintro e w21 ⟨v, rfl, ⟨y, rfl, y0, y1⟩, C21, G21⟩; have N21 := Lib.hid (N20.out.draw C21 G21))); refine hK.out _ _ ⟨own_at N21.out.box (j := 0) rfl, own_at N21.out.box (j := 1) rfl, own_at N21.out.rs (j := a) hja, own_at N21.out.rs (j := bb) hjb⟩ fun hHeld => ?_; clear hK K; (try simp only [Act.put, List.setIfInBounds_toArray, List.set_cons_zero, List.set_cons_succ])
                clear C21 G21
                refine wpAnyH_take (i := 17) (v := ?_) rfl (by kernel_rfl) (by kernel_rfl) (by kernel_rfl) (fun _ _ _ h => h) (Or.inl ⟨by rfl, ?_⟩) (by assumption) ?_; rotate_left 1; (focus (intro w hSw; (try dsimp only at hSw); obtain ⟨y0, y1, y2, y3⟩ := hSw; go_simp; (try with_reducible rfl))); (try simp only [Act.put, List.setIfInBounds_toArray, List.set_cons_zero, List.set_cons_succ])
                refine wpAnyH_ready (rs := [18, 22]) (by kernel_rfl) (by simp) ?_; refine AllReadyH.cons rfl (fun K hK => ?_) (AllReadyH.cons rfl (fun K hK => ?_) (AllReadyH.nil))
                focus
                  have HB := Lib.hid (show BanSm ⟨a, x, bb, y⟩ from ⟨smI (a : Int) (by omega) (by omega), smI x (by omega) (by omega), smI (bb : Int) (by omega) (by omega), smI y (by omega) (by omega)⟩)
                  go_simp; (try simp only [Act.put, List.setIfInBounds_toArray, List.set_cons_zero, List.set_cons_succ]); (try go_wp2_with (go_at_call 53; refine (AddBanS_any ⟨q, 0, none⟩ n c q2 0 m d ss bs ⟨a, x, bb, y⟩ _ (N21.out.tab hss hbs (by omega) (by omega)) (own_le N21.out.rb) (HB.out).wf).mono ?_; rintro e w22 ⟨A9, n9, c9, B9, m9, d9, rfl, q9, p9, e9⟩; have N22 := Lib.hid (N21.out.step e9))); refine hK.out _ _ ⟨own_at N22.out.box (j := 0) rfl, own_at N22.out.box (j := 1) rfl, own_at N22.out.rs (j := a) hja, own_at N22.out.rs (j := bb) hjb⟩ fun hHeld => ?_; clear hK K; (try simp only [Act.put, List.setIfInBounds_toArray, List.set_cons_zero, List.set_cons_succ])
                  have rs22 := Lib.hid (own_low' q9 N21.out.grown.size)
                  have rb22 := Lib.hid (own_low' p9 N21.out.grown.size)
                  clear q9 p9 e9
                  refine wpAnyH_take (i := 19) (v := ?_) rfl (by kernel_rfl) (by kernel_rfl) (by kernel_rfl) (fun _ _ _ h => h) (Or.inl ⟨by rfl, ?_⟩) (by assumption) ?_; rotate_left 1; (focus (intro w hSw; (try dsimp only at hSw); obtain ⟨y0, y1, y2, y3⟩ := hSw; go_simp; (try with_reducible rfl))); (try simp only [Act.put, List.setIfInBounds_toArray, List.set_cons_zero, List.set_cons_succ])
                  refine wpAnyH_take (i := 20) (v := ?_) rfl (by kernel_rfl) (by kernel_rfl) (by kernel_rfl) (fun _ _ _ h => h) (Or.inl ⟨by rfl, ?_⟩) (by assumption) ?_; rotate_left 1; (focus (intro w hSw; (try dsimp only at hSw); obtain ⟨y0, y1, y2, y3⟩ := hSw; go_simp; (try with_reducible rfl))); (try simp only [Act.put, List.setIfInBounds_toArray, List.set_cons_zero, List.set_cons_succ])
                  refine wpAnyH_take (i := 21) (v := ?_) rfl (by kernel_rfl) (by kernel_rfl) (by kernel_rfl) (fun _ _ _ h => h) (Or.inl ⟨by rfl, ?_⟩) (by assumption) ?_; rotate_left 1; (focus (intro w hSw; (try dsimp only at hSw); obtain ⟨y0, y1, y2, y3⟩ := hSw; go_simp; (try with_reducible rfl))); (try simp only [Act.put, List.setIfInBounds_toArray, List.set_cons_zero, List.set_cons_succ])
                  have N23 := Lib.hid (N22.out.step ((Ext.refl (w22)).alloc (.cells #[.slice none 0 0, .slice none 0 0] 27)))
                  have zn23 : gt ≠ w22.heap.size := by have h9 := (N22.out.box.lt gt rfl).2; (try simp only [World.size_alloc, World.size_drew] at h9); omega
                  have zr23 : w0.heap.size ≠ w22.heap.size := by have h9 := (N22.out.res.lt _ rfl).2; (try simp only [World.size_alloc, World.size_drew] at h9); omega
                  have ob23 := own_low' (own_block (w22) 27 [.slice none 0 0, .slice none 0 0]) N22.out.grown.size
                  (try simp only [World.size_alloc, World.size_drew] at ob23)
                  have oh23 := Lib.hid ob23
                  clear ob23
                  refine wpAnyH_ready (rs := [22]) (by kernel_rfl) (by simp) ?_; refine AllReadyH.cons rfl (fun K hK => ?_) AllReadyH.nil; go_simp; (try simp only [Act.put, List.setIfInBounds_toArray, List.set_cons_zero, List.set_cons_succ]); (try go_wp2_with fail); refine hK.out _ _ ⟨own_at N23.out.box (j := 0) rfl, own_at N23.out.box (j := 1) rfl, own_at N23.out.rs (j := a) hja, own_at N23.out.rs (j := bb) hjb⟩ fun hHeld => ?_; clear hK K; (try simp only [Act.put, List.setIfInBounds_toArray, List.set_cons_zero, List.set_cons_succ])
                  have rs23 := Lib.hid (((Ext.refl (w22)).alloc (.cells #[.slice none 0 0, .slice none 0 0] 27)).own rs22.out)
                  have rb23 := Lib.hid (((Ext.refl (w22)).alloc (.cells #[.slice none 0 0, .slice none 0 0] 27)).own rb22.out)
                  obtain ⟨t0, t1, tg⟩ := tab_stored oh23.out (.slice A9 n9 c9) (.slice B9 m9 d9)
                  have NX := Lib.hid (N23.out.other oh23.out zn23 zr23 tg)
                  have RX := Lib.hid (rs23.out.kept tg (own_types rs23.out oh23.out (fun e => tabInt e.symm)))
                  have BX := Lib.hid (rb23.out.kept tg (own_types rb23.out oh23.out banTab))
                  refine wpAnyH_ready (rs := [23]) (by kernel_rfl) (by simp) ?_; refine AllReadyH.cons rfl (fun K hK => ?_) AllReadyH.nil; refine step_store rfl 27 (.tmp 8) (.tmp 77) rfl (w22.heap.size) 0 [.slice A9 n9 c9, .slice B9 m9 d9] rfl rfl (own_there oh23.out 0 2 (by simp)) sizeTab rfl rfl ?_; refine hK.out _ _ ⟨own_at NX.out.box (j := 0) rfl, own_at NX.out.box (j := 1) rfl, own_at NX.out.rs (j := a) hja, own_at NX.out.rs (j := bb) hjb⟩ fun hHeld => ?_; clear hK K; (try simp only [Act.put, List.setIfInBounds_toArray, List.set_cons_zero, List.set_cons_succ])
                  generalize (World.setCells _ (w22.heap.size) 0 [.slice A9 n9 c9, .slice B9 m9 d9]) = W9 at *
                  generalize (w22.heap.size) = go at *
                  refine wpAnyH_take (i := 24) (v := ?_) rfl (by kernel_rfl) (by kernel_rfl) (by kernel_rfl) (fun _ _ _ h => h) (Or.inl ⟨by rfl, ?_⟩) (by assumption) ?_; rotate_left 1; (focus (intro w hSw; (try dsimp only at hSw); obtain ⟨y0, y1, y2, y3⟩ := hSw; go_simp; (try with_reducible rfl))); (try simp only [Act.put, List.setIfInBounds_toArray, List.set_cons_zero, List.set_cons_succ])
                  refine wpAnyH_done (by kernel_rfl) ?_ _
                rotate_left 1
                focus
                  have N22 := Lib.hid (N21.out.step ((Ext.refl (w21)).alloc (.cells #[.slice none 0 0, .slice none 0 0] 27)))
                  have zn22 : gt ≠ w21.heap.size := by have h9 := (N21.out.box.lt gt rfl).2; (try simp only [World.size_alloc, World.size_drew] at h9); omega
                  have zr22 : w0.heap.size ≠ w21.heap.size := by have h9 := (N21.out.res.lt _ rfl).2; (try simp only [World.size_alloc, World.size_drew] at h9); omega
                  have ob22 := own_low' (own_block (w21) 27 [.slice none 0 0, .slice none 0 0]) N21.out.grown.size
                  (try simp only [World.size_alloc, World.size_drew] at ob22)
                  have oh22 := Lib.hid ob22
                  clear ob22
                  go_simp; (try simp only [Act.put, List.setIfInBounds_toArray, List.set_cons_zero, List.set_cons_succ]); (try go_wp2_with fail); refine hK.out _ _ ⟨own_at N22.out.box (j := 0) rfl, own_at N22.out.box (j := 1) rfl, own_at N22.out.rs (j := a) hja, own_at N22.out.rs (j := bb) hjb⟩ fun hHeld => ?_; clear hK K; (try simp only [Act.put, List.setIfInBounds_toArray, List.set_cons_zero, List.set_cons_succ])
                  have HB := Lib.hid (show BanSm ⟨a, x, bb, y⟩ from ⟨smI (a : Int) (by omega) (by omega), smI x (by omega) (by omega), smI (bb : Int) (by omega) (by omega), smI y (by omega) (by omega)⟩)
                  refine wpAnyH_ready (rs := [18]) (by kernel_rfl) (by simp) ?_; refine AllReadyH.cons rfl (fun K hK => ?_) AllReadyH.nil; go_simp; (try simp only [Act.put, List.setIfInBounds_toArray, List.set_cons_zero, List.set_cons_succ]); (try go_wp2_with (go_at_call 53; refine (AddBanS_any ⟨q, 0, none⟩ n c q2 0 m d ss bs ⟨a, x, bb, y⟩ _ (N22.out.tab hss hbs (by omega) (by omega)) (own_le N22.out.rb) (HB.out).wf).mono ?_; rintro e w23 ⟨A9, n9, c9, B9, m9, d9, rfl, q9, p9, e9⟩; have N23 := Lib.hid (N22.out.step e9))); refine hK.out _ _ ⟨own_at N23.out.box (j := 0) rfl, own_at N23.out.box (j := 1) rfl, own_at N23.out.rs (j := a) hja, own_at N23.out.rs (j := bb) hjb⟩ fun hHeld => ?_; clear hK K; (try simp only [Act.put, List.setIfInBounds_toArray, List.set_cons_zero, List.set_cons_succ])
                  have rs23 := Lib.hid (own_low' q9 N22.out.grown.size)
                  have rb23 := Lib.hid (own_low' p9 N22.out.grown.size)
                  have ob23 := Lib.hid (e9.own oh22.out)
                  clear q9 p9 e9
                  refine wpAnyH_take (i := 19) (v := ?_) rfl (by kernel_rfl) (by kernel_rfl) (by kernel_rfl) (fun _ _ _ h => h) (Or.inl ⟨by rfl, ?_⟩) (by assumption) ?_; rotate_left 1; (focus (intro w hSw; (try dsimp only at hSw); obtain ⟨y0, y1, y2, y3⟩ := hSw; go_simp; (try with_reducible rfl))); (try simp only [Act.put, List.setIfInBounds_toArray, List.set_cons_zero, List.set_cons_succ])
                  refine wpAnyH_take (i := 20) (v := ?_) rfl (by kernel_rfl) (by kernel_rfl) (by kernel_rfl) (fun _ _ _ h => h) (Or.inl ⟨by rfl, ?_⟩) (by assumption) ?_; rotate_left 1; (focus (intro w hSw; (try dsimp only at hSw); obtain ⟨y0, y1, y2, y3⟩ := hSw; go_simp; (try with_reducible rfl))); (try simp only [Act.put, List.setIfInBounds_toArray, List.set_cons_zero, List.set_cons_succ])
                  refine wpAnyH_take (i := 21) (v := ?_) rfl (by kernel_rfl) (by kernel_rfl) (by kernel_rfl) (fun _ _ _ h => h) (Or.inl ⟨by rfl, ?_⟩) (by assumption) ?_; rotate_left 1; (focus (intro w hSw; (try dsimp only at hSw); obtain ⟨y0, y1, y2, y3⟩ := hSw; go_simp; (try with_reducible rfl))); (try simp only [Act.put, List.setIfInBounds_toArray, List.set_cons_zero, List.set_cons_succ])
                  obtain ⟨t0, t1, tg⟩ := tab_stored ob23.out (.slice A9 n9 c9) (.slice B9 m9 d9)
                  have NX := Lib.hid (N23.out.other ob23.out zn22 zr22 tg)
                  have RX := Lib.hid (rs23.out.kept tg (own_types rs23.out ob23.out (fun e => tabInt e.symm)))
                  have BX := Lib.hid (rb23.out.kept tg (own_types rb23.out ob23.out banTab))
                  refine wpAnyH_ready (rs := [23]) (by kernel_rfl) (by simp) ?_; refine AllReadyH.cons rfl (fun K hK => ?_) AllReadyH.nil; refine step_store rfl 27 (.tmp 8) (.tmp 77) rfl (w21.heap.size) 0 [.slice A9 n9 c9, .slice B9 m9 d9] rfl rfl (own_there ob23.out 0 2 (by simp)) sizeTab rfl rfl ?_; refine hK.out _ _ ⟨own_at NX.out.box (j := 0) rfl, own_at NX.out.box (j := 1) rfl, own_at NX.out.rs (j := a) hja, own_at NX.out.rs (j := bb) hjb⟩ fun hHeld => ?_; clear hK K; (try simp only [Act.put, List.setIfInBounds_toArray, List.set_cons_zero, List.set_cons_succ])
                  generalize (World.setCells _ (w21.heap.size) 0 [.slice A9 n9 c9, .slice B9 m9 d9]) = W9 at *
                  generalize (w21.heap.size) = go at *
                  refine wpAnyH_take (i := 24) (v := ?_) rfl (by kernel_rfl) (by kernel_rfl) (by kernel_rfl) (fun _ _ _ h => h) (Or.inl ⟨by rfl, ?_⟩) (by assumption) ?_; rotate_left 1; (focus (intro w hSw; (try dsimp only at hSw); obtain ⟨y0, y1, y2, y3⟩ := hSw; go_simp; (try with_reducible rfl))); (try simp only [Act.put, List.setIfInBounds_toArray, List.set_cons_zero, List.set_cons_succ])
                  refine wpAnyH_done (by kernel_rfl) ?_ _
                rotate_left 1
              rotate_left 2
              focus
                have N21 := Lib.hid (N20.out.step ((Ext.refl (w20)).alloc (.cells #[.slice none 0 0, .slice none 0 0] 27)))
                have zn21 : gt ≠ w20.heap.size := by have h9 := (N20.out.box.lt gt rfl).2; (try simp only [World.size_alloc, World.size_drew] at h9); omega
                have zr21 : w0.heap.size ≠ w20.heap.size := by have h9 := (N20.out.res.lt _ rfl).2; (try simp only [World.size_alloc, World.size_drew] at h9); omega
                have ob21 := own_low' (own_block (w20) 27 [.slice none 0 0, .slice none 0 0]) N20.out.grown.size
                (try simp only [World.size_alloc, World.size_drew] at ob21)
                have oh21 := Lib.hid ob21
                clear ob21
                go_simp; (try simp only [Act.put, List.setIfInBounds_toArray, List.set_cons_zero, List.set_cons_succ]); (try go_wp2_with fail); refine hK.out _ _ ⟨own_at N21.out.box (j := 0) rfl, own_at N21.out.box (j := 1) rfl, own_at N21.out.rs (j := a) hja, own_at N21.out.rs (j := bb) hjb⟩ fun hHeld => ?_; clear hK K; (try simp only [Act.put, List.setIfInBounds_toArray, List.set_cons_zero, List.set_cons_succ])
                refine wpAnyH_ready (rs := [16]) (by kernel_rfl) (by simp) ?_; refine AllReadyH.cons rfl (fun K hK => ?_) AllReadyH.nil; go_simp; (try simp only [Act.put, List.setIfInBounds_toArray, List.set_cons_zero, List.set_cons_succ]); (try go_wp2_with (go_at_call 52; refine (pick_any g _ vb _ N21.out.cur (by omega) (by omega)).mono ?_; rintro e w22 ⟨v, rfl, ⟨y, rfl, y0, y1⟩, C22, G22⟩; have N22 := Lib.hid (N21.out.draw C22 G22))); refine hK.out _ _ ⟨own_at N22.out.box (j := 0) rfl, own_at N22.out.box (j := 1) rfl, own_at N22.out.rs (j := a) hja, own_at N22.out.rs (j := bb) hjb⟩ fun hHeld => ?_; clear hK K; (try simp only [Act.put, List.setIfInBounds_toArray, List.set_cons_zero, List.set_cons_succ])
                have ob22 := Lib.hid (oh21.out.kept G22 (own_cur oh21.out N21.out.hg))
                clear C22 G22
                refine wpAnyH_take (i := 17) (v := ?_) rfl (by kernel_rfl) (by kernel_rfl) (by kernel_rfl) (fun _ _ _ h => h) (Or.inl ⟨by rfl, ?_⟩) (by assumption) ?_; rotate_left 1; (focus (intro w hSw; (try dsimp only at hSw); obtain ⟨y0, y1, y2, y3⟩ := hSw; go_simp; (try with_reducible rfl))); (try simp only [Act.put, List.setIfInBounds_toArray, List.set_cons_zero, List.set_cons_succ])
                have HB := Lib.hid (show BanSm ⟨a, x, bb, y⟩ from ⟨smI (a : Int) (by omega) (by omega), smI x (by omega) (by omega), smI (bb : Int) (by omega) (by omega), smI y (by omega) (by omega)⟩)
                refine wpAnyH_ready (rs := [18]) (by kernel_rfl) (by simp) ?_; refine AllReadyH.cons rfl (fun K hK => ?_) AllReadyH.nil; go_simp; (try simp only [Act.put, List.setIfInBounds_toArray, List.set_cons_zero, List.set_cons_succ]); (try go_wp2_with (go_at_call 53; refine (AddBanS_any ⟨q, 0, none⟩ n c q2 0 m d ss bs ⟨a, x, bb, y⟩ _ (N22.out.tab hss hbs (by omega) (by omega)) (own_le N22.out.rb) (HB.out).wf).mono ?_; rintro e w23 ⟨A9, n9, c9, B9, m9, d9, rfl, q9, p9, e9⟩; have N23 := Lib.hid (N22.out.step e9))); refine hK.out _ _ ⟨own_at N23.out.box (j := 0) rfl, own_at N23.out.box (j := 1) rfl, own_at N23.out.rs (j := a) hja, own_at N23.out.rs (j := bb) hjb⟩ fun hHeld => ?_; clear hK K; (try simp only [Act.put, List.setIfInBounds_toArray, List.set_cons_zero, List.set_cons_succ])
                have rs23 := Lib.hid (own_low' q9 N22.out.grown.size)
                have rb23 := Lib.hid (own_low' p9 N22.out.grown.size)
                have ob23 := Lib.hid (e9.own ob22.out)
                clear q9 p9 e9
                refine wpAnyH_take (i := 19) (v := ?_) rfl (by kernel_rfl) (by kernel_rfl) (by kernel_rfl) (fun _ _ _ h => h) (Or.inl ⟨by rfl, ?_⟩) (by assumption) ?_; rotate_left 1; (focus (intro w hSw; (try dsimp only at hSw); obtain ⟨y0, y1, y2, y3⟩ := hSw; go_simp; (try with_reducible rfl))); (try simp only [Act.put, List.setIfInBounds_toArray, List.set_cons_zero, List.set_cons_succ])
                refine wpAnyH_take (i := 20) (v := ?_) rfl (by kernel_rfl) (by kernel_rfl) (by kernel_rfl) (fun _ _ _ h => h) (Or.inl ⟨by rfl, ?_⟩) (by assumption) ?_; rotate_left 1; (focus (intro w hSw; (try dsimp only at hSw); obtain ⟨y0, y1, y2, y3⟩ := hSw; go_simp; (try with_reducible rfl))); (try simp only [Act.put, List.setIfInBounds_toArray, List.set_cons_zero, List.set_cons_succ])
                refine wpAnyH_take (i := 21) (v := ?_) rfl (by kernel_rfl) (by kernel_rfl) (by kernel_rfl) (fun _ _ _ h => h) (Or.inl ⟨by rfl, ?_⟩) (by assumption) ?_; rotate_left 1; (focus (intro w hSw; (try dsimp only at hSw); obtain ⟨y0, y1, y2, y3⟩ := hSw; go_simp; (try with_reducible rfl))); (try simp only [Act.put, List.setIfInBounds_toArray, List.set_cons_zero, List.set_cons_succ])
                obtain ⟨t0, t1, tg⟩ := tab_stored ob23.out (.slice A9 n9 c9) (.slice B9 m9 d9)
                have NX := Lib.hid (N23.out.other ob23.out zn21 zr21 tg)
                have RX := Lib.hid (rs23.out.kept tg (own_types rs23.out ob23.out (fun e => tabInt e.symm)))
                have BX := Lib.hid (rb23.out.kept tg (own_types rb23.out ob23.out banTab))
                refine wpAnyH_ready (rs := [23]) (by kernel_rfl) (by simp) ?_; refine AllReadyH.cons rfl (fun K hK => ?_) AllReadyH.nil; refine step_store rfl 27 (.tmp 8) (.tmp 77) rfl (w20.heap.size) 0 [.slice A9 n9 c9, .slice B9 m9 d9] rfl rfl (own_there ob23.out 0 2 (by simp)) sizeTab rfl rfl ?_; refine hK.out _ _ ⟨own_at NX.out.box (j := 0) rfl, own_at NX.out.box (j := 1) rfl, own_at NX.out.rs (j := a) hja, own_at NX.out.rs (j := bb) hjb⟩ fun hHeld => ?_; clear hK K; (try simp only [Act.put, List.setIfInBounds_toArray, List.set_cons_zero, List.set_cons_succ])
                generalize (World.setCells _ (w20.heap.size) 0 [.slice A9 n9 c9, .slice B9 m9 d9]) = W9 at *
                generalize (w20.heap.size) = go at *
                refine wpAnyH_take (i := 24) (v := ?_) rfl (by kernel_rfl) (by kernel_rfl) (by kernel_rfl) (fun _ _ _ h => h) (Or.inl ⟨by rfl, ?_⟩) (by assumption) ?_; rotate_left 1; (focus (intro w hSw; (try dsimp only at hSw); obtain ⟨y0, y1, y2, y3⟩ := hSw; go_simp; (try with_reducible rfl))); (try simp only [Act.put, List.setIfInBounds_toArray, List.set_cons_zero, List.set_cons_succ])
                refine wpAnyH_done (by kernel_rfl) ?_ _
              rotate_left 1
            rotate_left 3
            focus
              have N20 := Lib.hid (N5.out.step ((Ext.refl (w4.drew)).alloc (.cells #[.slice none 0 0, .slice none 0 0] 27)))
              have zn20 : gt ≠ w4.heap.size := by have h9 := (N5.out.box.lt gt rfl).2; (try simp only [World.size_alloc, World.size_drew] at h9); omega
              have zr20 : w0.heap.size ≠ w4.heap.size := by have h9 := (N5.out.res.lt _ rfl).2; (try simp only [World.size_alloc, World.size_drew] at h9); omega
              have ob20 := own_low' (own_block (w4.drew) 27 [.slice none 0 0, .slice none 0 0]) N5.out.grown.size
              (try simp only [World.size_alloc, World.size_drew] at ob20)
              have oh20 := Lib.hid ob20
              clear ob20
              go_simp; (try simp only [Act.put, List.setIfInBounds_toArray, List.set_cons_zero, List.set_cons_succ]); (try go_wp2_with fail); refine hK.out _ _ ⟨own_at N20.out.box (j := 0) rfl, own_at N20.out.box (j := 1) rfl, own_at N20.out.rs (j := a) hja, own_at N20.out.rs (j := bb) hjb⟩ fun hHeld => ?_; clear hK K; (try simp only [Act.put, List.setIfInBounds_toArray, List.set_cons_zero, List.set_cons_succ])
              refine wpAnyH_ready (rs := [8]) (by kernel_rfl) (by simp) ?_; refine AllReadyH.cons rfl (fun K hK => ?_) AllReadyH.nil; go_simp; (try simp only [Act.put, List.setIfInBounds_toArray, List.set_cons_zero, List.set_cons_succ]); (try go_wp2_with (go_at_call 52; refine (pick_any g _ va _ N20.out.cur (by omega) (by omega)).mono ?_; rintro e w21 ⟨v, rfl, ⟨x, rfl, x0, x1⟩, C21, G21⟩; have N21 := Lib.hid (N20.out.draw C21 G21))); refine hK.out _ _ ⟨own_at N21.out.box (j := 0) rfl, own_at N21.out.box (j := 1) rfl, own_at N21.out.rs (j := a) hja, own_at N21.out.rs (j := bb) hjb⟩ fun hHeld => ?_; clear hK K; (try simp only [Act.put, List.setIfInBounds_toArray, List.set_cons_zero, List.set_cons_succ])
              have ob21 := Lib.hid (oh20.out.kept G21 (own_cur oh20.out N20.out.hg))
              clear C21 G21
              refine wpAnyH_ready (rs := [16]) (by kernel_rfl) (by simp) ?_; refine AllReadyH.cons rfl (fun K hK => ?_) AllReadyH.nil; go_simp; (try simp only [Act.put, List.setIfInBounds_toArray, List.set_cons_zero, List.set_cons_succ]); (try go_wp2_with (go_at_call 52; refine (pick_any g _ vb _ N21.out.cur (by omega) (by omega)).mono ?_; rintro e w22 ⟨v, rfl, ⟨y, rfl, y0, y1⟩, C22, G22⟩; have N22 := Lib.hid (N21.out.draw C22 G22))); refine hK.out _ _ ⟨own_at N22.out.box (j := 0) rfl, own_at N22.out.box (j := 1) rfl, own_at N22.out.rs (j := a) hja, own_at N22.out.rs (j := bb) hjb⟩ fun hHeld => ?_; clear hK K; (try simp only [Act.put, List.setIfInBounds_toArray, List.set_cons_zero, List.set_cons_succ])
              have ob22 := Lib.hid (ob21.out.kept G22 (own_cur ob21.out N21.out.hg))
              clear C22 G22
              refine wpAnyH_take (i := 17) (v := ?_) rfl (by kernel_rfl) (by kernel_rfl) (by kernel_rfl) (fun _ _ _ h => h) (Or.inl ⟨by rfl, ?_⟩) (by assumption) ?_; rotate_left 1; (focus (intro w hSw; (try dsimp only at hSw); obtain ⟨y0, y1, y2, y3⟩ := hSw; go_simp; (try with_reducible rfl))); (try simp only [Act.put, List.setIfInBounds_toArray, List.set_cons_zero, List.set_cons_succ])
              have HB := Lib.hid (show BanSm ⟨a, x, bb, y⟩ from ⟨smI (a : Int) (by omega) (by omega), smI x (by omega) (by omega), smI (bb : Int) (by omega) (by omega), smI y (by omega) (by omega)⟩)
              refine wpAnyH_ready (rs := [18]) (by kernel_rfl) (by simp) ?_; refine AllReadyH.cons rfl (fun K hK => ?_) AllReadyH.nil; go_simp; (try simp only [Act.put, List.setIfInBounds_toArray, List.set_cons_zero, List.set_cons_succ]); (try go_wp2_with (go_at_call 53; refine (AddBanS_any ⟨q, 0, none⟩ n c q2 0 m d ss bs ⟨a, x, bb, y⟩ _ (N22.out.tab hss hbs (by omega) (by omega)) (own_le N22.out.rb) (HB.out).wf).mono ?_; rintro e w23 ⟨A9, n9, c9, B9, m9, d9, rfl, q9, p9, e9⟩; have N23 := Lib.hid (N22.out.step e9))); refine hK.out _ _ ⟨own_at N23.out.box (j := 0) rfl, own_at N23.out.box (j := 1) rfl, own_at N23.out.rs (j := a) hja, own_at N23.out.rs (j := bb) hjb⟩ fun hHeld => ?_; clear hK K; (try simp only [Act.put, List.setIfInBounds_toArray, List.set_cons_zero, List.set_cons_succ])
              have rs23 := Lib.hid (own_low' q9 N22.out.grown.size)
              have rb23 := Lib.hid (own_low' p9 N22.out.grown.size)
              have ob23 := Lib.hid (e9.own ob22.out)
              clear q9 p9 e9
              refine wpAnyH_take (i := 19) (v := ?_) rfl (by kernel_rfl) (by kernel_rfl) (by kernel_rfl) (fun _ _ _ h => h) (Or.inl ⟨by rfl, ?_⟩) (by assumption) ?_; rotate_left 1; (focus (intro w hSw; (try dsimp only at hSw); obtain ⟨y0, y1, y2, y3⟩ := hSw; go_simp; (try with_reducible rfl))); (try simp only [Act.put, List.setIfInBounds_toArray, List.set_cons_zero, List.set_cons_succ])
              refine wpAnyH_take (i := 20) (v := ?_) rfl (by kernel_rfl) (by kernel_rfl) (by kernel_rfl) (fun _ _ _ h => h) (Or.inl ⟨by rfl, ?_⟩) (by assumption) ?_; rotate_left 1; (focus (intro w hSw; (try dsimp only at hSw); obtain ⟨y0, y1, y2, y3⟩ := hSw; go_simp; (try with_reducible rfl))); (try simp only [Act.put, List.setIfInBounds_toArray, List.set_cons_zero, List.set_cons_succ])
              refine wpAnyH_take (i := 21) (v := ?_) rfl (by kernel_rfl) (by kernel_rfl) (by kernel_rfl) (fun _ _ _ h => h) (Or.inl ⟨by rfl, ?_⟩) (by assumption) ?_; rotate_left 1; (focus (intro w hSw; (try dsimp only at hSw); obtain ⟨y0, y1, y2, y3⟩ := hSw; go_simp; (try with_reducible rfl))); (try simp only [Act.put, List.setIfInBounds_toArray, List.set_cons_zero, List.set_cons_succ])
              obtain ⟨t0, t1, tg⟩ := tab_stored ob23.out (.slice A9 n9 c9) (.slice B9 m9 d9)
              have NX := Lib.hid (N23.out.other ob23.out zn20 zr20 tg)
              have RX := Lib.hid (rs23.out.kept tg (own_types rs23.out ob23.out (fun e => tabInt e.symm)))
              have BX := Lib.hid (rb23.out.kept tg (own_types rb23.out ob23.out banTab))
              refine wpAnyH_ready (rs := [23]) (by kernel_rfl) (by simp) ?_; refine AllReadyH.cons rfl (fun K hK => ?_) AllReadyH.nil; refine step_store rfl 27 (.tmp 8) (.tmp 77) rfl (w4.heap.size) 0 [.slice A9 n9 c9, .slice B9 m9 d9] rfl rfl (own_there ob23.out 0 2 (by simp)) sizeTab rfl rfl ?_; refine hK.out _ _ ⟨own_at NX.out.box (j := 0) rfl, own_at NX.out.box (j := 1) rfl, own_at NX.out.rs (j := a) hja, own_at NX.out.rs (j := bb) hjb⟩ fun hHeld => ?_; clear hK K; (try simp only [Act.put, List.setIfInBounds_toArray, List.set_cons_zero, List.set_cons_succ])
              generalize (World.setCells _ (w4.heap.size) 0 [.slice A9 n9 c9, .slice B9 m9 d9]) = W9 at *
              generalize (w4.heap.size) = go at *
              refine wpAnyH_take (i := 24) (v := ?_) rfl (by kernel_rfl) (by kernel_rfl) (by kernel_rfl) (fun _ _ _ h => h) (Or.inl ⟨by rfl, ?_⟩) (by assumption) ?_; rotate_left 1; (focus (intro w hSw; (try dsimp only at hSw); obtain ⟨y0, y1, y2, y3⟩ := hSw; go_simp; (try with_reducible rfl))); (try simp only [Act.put, List.setIfInBounds_toArray, List.set_cons_zero, List.set_cons_succ])
              refine wpAnyH_done (by kernel_rfl) ?_ _
            rotate_left 1
            all_goals
              (try simp only [List.getElem_toArray, List.getElem_cons_succ, List.getElem_cons_zero, List.setIfInBounds_toArray, List.set_cons_succ, List.set_cons_zero])
              have hrl := RX.out.1
              rw [ints_length] at hrl
              have hbl := BX.out.1
              rw [flat_length Ban.cs 4 Ban.len] at hbl
              have hml : bs.length = m := by have := N4.out.rb.1; rw [flat_length Ban.cs 4 Ban.len] at this; omega
              have HBs := Lib.hid (show ∀ z ∈ insB bs ⟨a, x, bb, y⟩, BanSm z from fun z hz => by
                unfold insB at hz
                rcases List.mem_append.1 hz with hz | hz
                · exact hbs.out z (List.mem_of_mem_take hz)
                · rcases List.mem_cons.1 hz with rfl | hz
                  · exact HB.out
                  · exact hbs.out z (List.mem_of_mem_drop hz))
              have zgo : go < W9.heap.size := World.block_lt_of_cell? W9 _ t0
              cases hok : okA ss bs ⟨a, x, bb, y⟩
              · go_wp2
                go_roundw
                case rel => exact ⟨k - 1, _, n, c, _, m, d, ss, bs, by go_num, by omega, hn4, by omega, hss, hbs, ⟨q, rfl⟩, ⟨q2, rfl⟩, NX.out.mono (by omega)⟩
                case measure => simp [intOf]; omega
              · rw [hok, if_pos rfl] at RX BX hrl hbl
                have hm9 : m9 = m + 1 := by rw [insB_len] at hbl; omega
                have hn9 : n9 = n := by omega
                have hA9 : ∃ q9, A9 = some ⟨q9, 0, none⟩ := by
                  obtain ⟨q9, cap, hv, _⟩ := RX.out.form (by omega)
                  injection hv with hv
                  exact ⟨q9, hv⟩
                have hB9 : ∃ q9, B9 = some ⟨q9, 0, none⟩ := by
                  obtain ⟨q9, cap, hv, _⟩ := BX.out.form (by omega)
                  injection hv with hv
                  exact ⟨q9, hv⟩
                have HM9 := Lib.hid hm9
                have HN9 := Lib.hid hn9
                clear hm9 hn9 hrl hbl hok
                go_wp2_with (refine wpList_store_own rfl 27 (.tmp 3) (.tmp 80) rfl gt 0 [.slice A9 n9 c9, .slice B9 m9 d9] rfl rfl w0.heap.size 27 2 1 1 _ NX.out.box (by simp) sizeTab rfl ?_; intro w8 ho8 hg8)
                have NR := Lib.hid (NX.out.replaced RX.out BX.out ho8 hg8)
                go_roundw
                case rel => exact ⟨k - 1, A9, n9, c9, B9, m9, d9, ss, insB bs ⟨a, x, bb, y⟩, by go_num, by omega, by have := HN9.out; omega, by have := HM9.out; omega, hss, HBs.out, hA9, hB9, NR.out.mono (by omega)⟩
                case measure => simp [intOf]; omega
          · have hnd : decide ((1 : Int) < (n : Int)) = false := by simp; omega
            have hnd2 : decide (1 < n) = false := by simp; omega
            go_wp2
            go_meet
            exact ⟨_, n, c, _, m, d, ss, bs, hn4, by omega, hss, hbs, ⟨q, rfl⟩, ⟨q2, rfl⟩, N1.out.mono (by omega)⟩
        · obtain rfl : k = 0 := by omega
          go_wp2
          go_meet
          exact ⟨_, n, c, _, m, d, ss, bs, hn4, by omega, hss, hbs, ⟨q, rfl⟩, ⟨q2, rfl⟩, N1.out.mono (by omega)⟩
    case rest =>
      obtain ⟨A, n, c, B, m, d, ss, bs, hn4, hm5, hss, hbs, hA, hB, hst⟩ := hcut
      have N1 := Lib.hid hst
      clear hst N2 hr5
      go_wp2_with fail
      refine (pick_any g _ 32 _ N1.out.cur (by omega) (by omega)).mono ?_
      rintro e w2 ⟨v, rfl, ⟨r, rfl, r0, r1⟩, C2, G2⟩
      have N2 := Lib.hid (N1.out.draw C2 G2)
      clear C2 G2 N1
      by_cases e0 : r = 0
      · subst e0
        go_wp2
        refine wp_region_held_drew (S := fun _ => True) (by kernel_rfl) trivial (fun hHeld => ?_)
        have N3 := Lib.hid (N2.out.step (Ext.refl w2).drew)
        refine wpAnyH_take (i := 0) (v := ?_) rfl (by kernel_rfl) (by kernel_rfl) (by kernel_rfl) (fun _ _ _ h => h) (Or.inl ⟨by rfl, ?_⟩) trivial ?_; rotate_left 1; (focus (intro w hSw; go_simp; (try with_reducible rfl))); (try simp only [Act.put, List.setIfInBounds_toArray, List.set_cons_zero, List.set_cons_succ])
        refine wpAnyH_take (i := 2) (v := ?_) rfl (by kernel_rfl) (by kernel_rfl) (by kernel_rfl) (fun _ _ _ h => h) (Or.inl ⟨by rfl, ?_⟩) trivial ?_; rotate_left 1; (focus (intro w hSw; go_simp; (try with_reducible rfl))); (try simp only [Act.put, List.setIfInBounds_toArray, List.set_cons_zero, List.set_cons_succ])
        refine wpAnyH_ready (rs := [1, 3]) (by kernel_rfl) (by simp) ?_; refine AllReadyH.cons rfl (fun K hK => ?_) (AllReadyH.cons rfl (fun K hK => ?_) (AllReadyH.nil))
        focus
          have cx1 := own_at N3.out.box (j := 0) rfl
          have cz1 : gt < w2.heap.size := by have h9 := World.block_lt_of_cell? w2.drew _ cx1; (try simp only [World.size_alloc, World.size_drew] at h9); exact h9
          go_simp; (try simp only [Act.put, List.setIfInBounds_toArray, List.set_cons_zero, List.set_cons_succ]); (try go_wp2_with fail); refine hK.out _ _ trivial fun _ => ?_; clear hK K; (try simp only [Act.put, List.setIfInBounds_toArray, List.set_cons_zero, List.set_cons_succ])
          clear cx1 cz1
          have N2 := Lib.hid (N3.out.step ((Ext.refl (w2.drew)).alloc (.cells #[.int .i64 0, .int .i64 5, .int .i64 6] 3)))
          refine wpAnyH_ready (rs := [3]) (by kernel_rfl) (by simp) ?_; refine AllReadyH.cons rfl (fun K hK => ?_) AllReadyH.nil; go_simp; (try simp only [Act.put, List.setIfInBounds_toArray, List.set_cons_zero, List.set_cons_succ]); (try go_wp2_with fail); refine hK.out _ _ trivial fun _ => ?_; clear hK K; (try simp only [Act.put, List.setIfInBounds_toArray, List.set_cons_zero, List.set_cons_succ])
          have ol2 := own_list (w2.drew) 3 [0, 5, 6]
          (try simp only [World.size_alloc, World.size_drew] at ol2)
          have OL := Lib.hid ol2
          clear ol2
          have zg : g < w2.heap.size := by have h9 := N3.out.cur.lt; (try simp only [World.size_alloc, World.size_drew] at h9); exact h9
          refine wpAnyH_ready (rs := [4]) (by kernel_rfl) (by simp) ?_; refine AllReadyH.cons rfl (fun K hK => ?_) AllReadyH.nil; go_simp; (try simp only [Act.put, List.setIfInBounds_toArray, List.set_cons_zero, List.set_cons_succ]); (try go_wp2_with (go_at_call 54; refine (among_any g _ _ 3 3 [0, 5, 6] 0 6 _ N2.out.cur (by decide) (by omega) (by omega) (by omega) (Rd.own OL.out) (Off.ne (by omega))).mono ?_; rintro e w3 ⟨v, rfl, ⟨u, rfl, u0, u1⟩, C3, G3⟩)); refine hK.out _ _ trivial fun _ => ?_; clear hK K; (try simp only [Act.put, List.setIfInBounds_toArray, List.set_cons_zero, List.set_cons_succ])
          have N3 := Lib.hid (N2.out.draw C3 G3)
          clear C3 G3
          have N4 := Lib.hid (N3.out.step ((Ext.refl (w3)).alloc (.cells #[.int .i64 u] 3)))
          refine wpAnyH_ready (rs := [5]) (by kernel_rfl) (by simp) ?_; refine AllReadyH.cons rfl (fun K hK => ?_) AllReadyH.nil; go_simp; (try simp only [Act.put, List.setIfInBounds_toArray, List.set_cons_zero, List.set_cons_succ]); (try go_wp2_with fail); refine hK.out _ _ trivial fun _ => ?_; clear hK K; (try simp only [Act.put, List.setIfInBounds_toArray, List.set_cons_zero, List.set_cons_succ])
          refine wpAnyH_ready (rs := [6]) (by kernel_rfl) (by simp) ?_; refine AllReadyH.cons rfl (fun K hK => ?_) AllReadyH.nil; refine step_app_own rfl (.tmp 86) (.tmp 90) 24 rfl w0.heap.size 3 i0 (.int .i64 0) 1 8 Tryd.underlying24 hi0 hz0v hzz1 hzz2 rfl (by decide) (.slice A n c) n (ints ss) rfl N4.out.rs ⟨w3.heap.size, 0, none⟩ 1 1 [.int .i64 u] rfl rfl (fun j u' hj => by rw [Addr.add_mid, Nat.zero_add]; exact one_int _ _ _ _ (by simp) hj) (one_intc _) (by unfold maxLen; omega) (by omega) N4.out.grown.size 91 rfl (n + 1) rfl (ints (ss ++ [u])) (ints_snoc _ _) ?_; intro A9 c9 w9 op9 gp9; (try simp only [Act.put, List.setIfInBounds_toArray, List.set_cons_zero, List.set_cons_succ]); refine hK.out _ _ trivial fun _ => ?_; clear hK K; (try simp only [Act.put, List.setIfInBounds_toArray, List.set_cons_zero, List.set_cons_succ])
          have B9 := Lib.hid (N4.out.box.kept gp9 (own_types N4.out.box N4.out.rs tabInt))
          have NS := Lib.hid (N4.out.sized op9 gp9)
          clear op9 gp9
          refine wpAnyH_take (i := 7) (v := ?_) rfl (by kernel_rfl) (by kernel_rfl) (by kernel_rfl) (fun _ _ _ h => h) (Or.inl ⟨by rfl, ?_⟩) trivial ?_; rotate_left 1; (focus (intro w hSw; go_simp; (try with_reducible rfl))); (try simp only [Act.put, List.setIfInBounds_toArray, List.set_cons_zero, List.set_cons_succ])
          have cx9 := own_at B9.out (j := 0) rfl
          have cz9 : gt < w9.heap.size := World.block_lt_of_cell? w9 _ cx9
          have cf9 := B9.out.frozenAt 0
          refine wpAnyH_ready (rs := [8]) (by kernel_rfl) (by simp) ?_; refine AllReadyH.cons rfl (fun K hK => ?_) AllReadyH.nil; go_simp; (try simp only [Act.put, List.setIfInBounds_toArray, List.set_cons_zero, List.set_cons_succ]); (try go_wp2_with fail); refine hK.out _ _ trivial fun _ => ?_; clear hK K; (try simp only [Act.put, List.setIfInBounds_toArray, List.set_cons_zero, List.set_cons_succ])
          clear cx9 cz9 cf9
          refine wpAnyH_done (by kernel_rfl) ?_ _
        rotate_left 1
        focus
          have N1 := Lib.hid (N3.out.step ((Ext.refl (w2.drew)).alloc (.cells #[.int .i64 0, .int .i64 5, .int .i64 6] 3)))
          go_simp; (try simp only [Act.put, List.setIfInBounds_toArray, List.set_cons_zero, List.set_cons_succ]); (try go_wp2_with fail); refine hK.out _ _ trivial fun _ => ?_; clear hK K; (try simp only [Act.put, List.setIfInBounds_toArray, List.set_cons_zero, List.set_cons_succ])
          have ol1 := own_list (w2.drew) 3 [0, 5, 6]
          (try simp only [World.size_alloc, World.size_drew] at ol1)
          have OL := Lib.hid ol1
          clear ol1
          have zg : g < w2.heap.size := by have h9 := N3.out.cur.lt; (try simp only [World.size_alloc, World.size_drew] at h9); exact h9
          refine wpAnyH_ready (rs := [1, 4]) (by kernel_rfl) (by simp) ?_; refine AllReadyH.cons rfl (fun K hK => ?_) (AllReadyH.cons rfl (fun K hK => ?_) (AllReadyH.nil))
          focus
            have cx2 := own_at N1.out.box (j := 0) rfl
            have cz2 : gt < w2.heap.size + 1 := by have h9 := World.block_lt_of_cell? (w2.drew.alloc (.cells #[.int .i64 0, .int .i64 5, .int .i64 6] 3)) _ cx2; (try simp only [World.size_alloc, World.size_drew] at h9); exact h9
            have cy2 := own_at N3.out.box (j := 0) rfl
            have cu2 : gt < w2.heap.size := by have h9 := World.block_lt_of_cell? w2.drew _ cy2; (try simp only [World.size_alloc, World.size_drew] at h9); exact h9
            have cv2 : ¬ gt = w2.heap.size := by omega
            have ct2 : w2.cell? ⟨gt, 0, none⟩ = some (.slice A n c) := cy2
            go_simp; (try simp only [Act.put, List.setIfInBounds_toArray, List.set_cons_zero, List.set_cons_succ]); (try go_wp2_with fail); refine hK.out _ _ trivial fun _ => ?_; clear hK K; (try simp only [Act.put, List.setIfInBounds_toArray, List.set_cons_zero, List.set_cons_succ])
            clear cx2 cz2 cy2 cu2 cv2 ct2
            refine wpAnyH_ready (rs := [4]) (by kernel_rfl) (by simp) ?_; refine AllReadyH.cons rfl (fun K hK => ?_) AllReadyH.nil; go_simp; (try simp only [Act.put, List.setIfInBounds_toArray, List.set_cons_zero, List.set_cons_succ]); (try go_wp2_with (go_at_call 54; refine (among_any g _ _ 3 3 [0, 5, 6] 0 6 _ N1.out.cur (by decide) (by omega) (by omega) (by omega) (Rd.own OL.out) (Off.ne (by omega))).mono ?_; rintro e w3 ⟨v, rfl, ⟨u, rfl, u0, u1⟩, C3, G3⟩)); refine hK.out _ _ trivial fun _ => ?_; clear hK K; (try simp only [Act.put, List.setIfInBounds_toArray, List.set_cons_zero, List.set_cons_succ])
            have N3 := Lib.hid (N1.out.draw C3 G3)
            clear C3 G3
            have N4 := Lib.hid (N3.out.step ((Ext.refl (w3)).alloc (.cells #[.int .i64 u] 3)))
            refine wpAnyH_ready (rs := [5]) (by kernel_rfl) (by simp) ?_; refine AllReadyH.cons rfl (fun K hK => ?_) AllReadyH.nil; go_simp; (try simp only [Act.put, List.setIfInBounds_toArray, List.set_cons_zero, List.set_cons_succ]); (try go_wp2_with fail); refine hK.out _ _ trivial fun _ => ?_; clear hK K; (try simp only [Act.put, List.setIfInBounds_toArray, List.set_cons_zero, List.set_cons_succ])
            refine wpAnyH_ready (rs := [6]) (by kernel_rfl) (by simp) ?_; refine AllReadyH.cons rfl (fun K hK => ?_) AllReadyH.nil; refine step_app_own rfl (.tmp 86) (.tmp 90) 24 rfl w0.heap.size 3 i0 (.int .i64 0) 1 8 Tryd.underlying24 hi0 hz0v hzz1 hzz2 rfl (by decide) (.slice A n c) n (ints ss) rfl N4.out.rs ⟨w3.heap.size, 0, none⟩ 1 1 [.int .i64 u] rfl rfl (fun j u' hj => by rw [Addr.add_mid, Nat.zero_add]; exact one_int _ _ _ _ (by simp) hj) (one_intc _) (by unfold maxLen; omega) (by omega) N4.out.grown.size 91 rfl (n + 1) rfl (ints (ss ++ [u])) (ints_snoc _ _) ?_; intro A9 c9 w9 op9 gp9; (try simp only [Act.put, List.setIfInBounds_toArray, List.set_cons_zero, List.set_cons_succ]); refine hK.out _ _ trivial fun _ => ?_; clear hK K; (try simp only [Act.put, List.setIfInBounds_toArray, List.set_cons_zero, List.set_cons_succ])
            have B9 := Lib.hid (N4.out.box.kept gp9 (own_types N4.out.box N4.out.rs tabInt))
            have NS := Lib.hid (N4.out.sized op9 gp9)
            clear op9 gp9
            refine wpAnyH_take (i := 7) (v := ?_) rfl (by kernel_rfl) (by kernel_rfl) (by kernel_rfl) (fun _ _ _ h => h) (Or.inl ⟨by rfl, ?_⟩) trivial ?_; rotate_left 1; (focus (intro w hSw; go_simp; (try with_reducible rfl))); (try simp only [Act.put, List.setIfInBounds_toArray, List.set_cons_zero, List.set_cons_succ])
            have cx9 := own_at B9.out (j := 0) rfl
            have cz9 : gt < w9.heap.size := World.block_lt_of_cell? w9 _ cx9
            have cf9 := B9.out.frozenAt 0
            refine wpAnyH_ready (rs := [8]) (by kernel_rfl) (by simp) ?_; refine AllReadyH.cons rfl (fun K hK => ?_) AllReadyH.nil; go_simp; (try simp only [Act.put, List.setIfInBounds_toArray, List.set_cons_zero, List.set_cons_succ]); (try go_wp2_with fail); refine hK.out _ _ trivial fun _ => ?_; clear hK K; (try simp only [Act.put, List.setIfInBounds_toArray, List.set_cons_zero, List.set_cons_succ])
            clear cx9 cz9 cf9
            refine wpAnyH_done (by kernel_rfl) ?_ _
          rotate_left 1
          focus
            go_simp; (try simp only [Act.put, List.setIfInBounds_toArray, List.set_cons_zero, List.set_cons_succ]); (try go_wp2_with (go_at_call 54; refine (among_any g _ _ 3 3 [0, 5, 6] 0 6 _ N1.out.cur (by decide) (by omega) (by omega) (by omega) (Rd.own OL.out) (Off.ne (by omega))).mono ?_; rintro e w2 ⟨v, rfl, ⟨u, rfl, u0, u1⟩, C2, G2⟩)); refine hK.out _ _ trivial fun _ => ?_; clear hK K; (try simp only [Act.put, List.setIfInBounds_toArray, List.set_cons_zero, List.set_cons_succ])
            have N2 := Lib.hid (N1.out.draw C2 G2)
            clear C2 G2
            refine wpAnyH_ready (rs := [1, 5]) (by kernel_rfl) (by simp) ?_; refine AllReadyH.cons rfl (fun K hK => ?_) (AllReadyH.cons rfl (fun K hK => ?_) (AllReadyH.nil))
            focus
              have cx3 := own_at N2.out.box (j := 0) rfl
              have cz3 : gt < w2.heap.size := by have h9 := World.block_lt_of_cell? w2 _ cx3; (try simp only [World.size_alloc, World.size_drew] at h9); exact h9
              go_simp; (try simp only [Act.put, List.setIfInBounds_toArray, List.set_cons_zero, List.set_cons_succ]); (try go_wp2_with fail); refine hK.out _ _ trivial fun _ => ?_; clear hK K; (try simp only [Act.put, List.setIfInBounds_toArray, List.set_cons_zero, List.set_cons_succ])
              clear cx3 cz3
              have N4 := Lib.hid (N2.out.step ((Ext.refl (w2)).alloc (.cells #[.int .i64 u] 3)))
              refine wpAnyH_ready (rs := [5]) (by kernel_rfl) (by simp) ?_; refine AllReadyH.cons rfl (fun K hK => ?_) AllReadyH.nil; go_simp; (try simp only [Act.put, List.setIfInBounds_toArray, List.set_cons_zero, List.set_cons_succ]); (try go_wp2_with fail); refine hK.out _ _ trivial fun _ => ?_; clear hK K; (try simp only [Act.put, List.setIfInBounds_toArray, List.set_cons_zero, List.set_cons_succ])
              refine wpAnyH_ready (rs := [6]) (by kernel_rfl) (by simp) ?_; refine AllReadyH.cons rfl (fun K hK => ?_) AllReadyH.nil; refine step_app_own rfl (.tmp 86) (.tmp 90) 24 rfl w0.heap.size 3 i0 (.int .i64 0) 1 8 Tryd.underlying24 hi0 hz0v hzz1 hzz2 rfl (by decide) (.slice A n c) n (ints ss) rfl N4.out.rs ⟨w2.heap.size, 0, none⟩ 1 1 [.int .i64 u] rfl rfl (fun j u' hj => by rw [Addr.add_mid, Nat.zero_add]; exact one_int _ _ _ _ (by simp) hj) (one_intc _) (by unfold maxLen; omega) (by omega) N4.out.grown.size 91 rfl (n + 1) rfl (ints (ss ++ [u])) (ints_snoc _ _) ?_; intro A9 c9 w9 op9 gp9; (try simp only [Act.put, List.setIfInBounds_toArray, List.set_cons_zero, List.set_cons_succ]); refine hK.out _ _ trivial fun _ => ?_; clear hK K; (try simp only [Act.put, List.setIfInBounds_toArray, List.set_cons_zero, List.set_cons_succ])
              have B9 := Lib.hid (N4.out.box.kept gp9 (own_types N4.out.box N4.out.rs tabInt))
              have NS := Lib.hid (N4.out.sized op9 gp9)
              clear op9 gp9
              refine wpAnyH_take (i := 7) (v := ?_) rfl (by kernel_rfl) (by kernel_rfl) (by kernel_rfl) (fun _ _ _ h => h) (Or.inl ⟨by rfl, ?_⟩) trivial ?_; rotate_left 1; (focus (intro w hSw; go_simp; (try with_reducible rfl))); (try simp only [Act.put, List.setIfInBounds_toArray, List.set_cons_zero, List.set_cons_succ])
              have cx9 := own_at B9.out (j := 0) rfl
              have cz9 : gt < w9.heap.size := World.block_lt_of_cell? w9 _ cx9
              have cf9 := B9.out.frozenAt 0
              refine wpAnyH_ready (rs := [8]) (by kernel_rfl) (by simp) ?_; refine AllReadyH.cons rfl (fun K hK => ?_) AllReadyH.nil; go_simp; (try simp only [Act.put, List.setIfInBounds_toArray, List.set_cons_zero, List.set_cons_succ]); (try go_wp2_with fail); refine hK.out _ _ trivial fun _ => ?_; clear hK K; (try simp only [Act.put, List.setIfInBounds_toArray, List.set_cons_zero, List.set_cons_succ])
              clear cx9 cz9 cf9
              refine wpAnyH_done (by kernel_rfl) ?_ _
            rotate_left 1
            focus
              have N3 := Lib.hid (N2.out.step ((Ext.refl (w2)).alloc (.cells #[.int .i64 u] 3)))
              go_simp; (try simp only [Act.put, List.setIfInBounds_toArray, List.set_cons_zero, List.set_cons_succ]); (try go_wp2_with fail); refine hK.out _ _ trivial fun _ => ?_; clear hK K; (try simp only [Act.put, List.setIfInBounds_toArray, List.set_cons_zero, List.set_cons_succ])
              have cx4 := own_at N3.out.box (j := 0) rfl
              have cz4 : gt < w2.heap.size + 1 := by have h9 := World.block_lt_of_cell? (w2.alloc (.cells #[.int .i64 u] 3)) _ cx4; (try simp only [World.size_alloc, World.size_drew] at h9); exact h9
              have cy4 := own_at N2.out.box (j := 0) rfl
              have cu4 : gt < w2.heap.size := by have h9 := World.block_lt_of_cell? w2 _ cy4; (try simp only [World.size_alloc, World.size_drew] at h9); exact h9
              have cv4 : ¬ gt = w2.heap.size := by omega
              refine wpAnyH_ready (rs := [1]) (by kernel_rfl) (by simp) ?_; refine AllReadyH.cons rfl (fun K hK => ?_) AllReadyH.nil; go_simp; (try simp only [Act.put, List.setIfInBounds_toArray, List.set_cons_zero, List.set_cons_succ]); (try go_wp2_with fail); refine hK.out _ _ trivial fun _ => ?_; clear hK K; (try simp only [Act.put, List.setIfInBounds_toArray, List.set_cons_zero, List.set_cons_succ])
              clear cx4 cz4 cy4 cu4 cv4
              refine wpAnyH_ready (rs := [6]) (by kernel_rfl) (by simp) ?_; refine AllReadyH.cons rfl (fun K hK => ?_) AllReadyH.nil; refine step_app_own rfl (.tmp 86) (.tmp 90) 24 rfl w0.heap.size 3 i0 (.int .i64 0) 1 8 Tryd.underlying24 hi0 hz0v hzz1 hzz2 rfl (by decide) (.slice A n c) n (ints ss) rfl N3.out.rs ⟨w2.heap.size, 0, none⟩ 1 1 [.int .i64 u] rfl rfl (fun j u' hj => by rw [Addr.add_mid, Nat.zero_add]; exact one_int _ _ _ _ (by simp) hj) (one_intc _) (by unfold maxLen; omega) (by omega) N3.out.grown.size 91 rfl (n + 1) rfl (ints (ss ++ [u])) (ints_snoc _ _) ?_; intro A9 c9 w9 op9 gp9; (try simp only [Act.put, List.setIfInBounds_toArray, List.set_cons_zero, List.set_cons_succ]); refine hK.out _ _ trivial fun _ => ?_; clear hK K; (try simp only [Act.put, List.setIfInBounds_toArray, List.set_cons_zero, List.set_cons_succ])
              have B9 := Lib.hid (N3.out.box.kept gp9 (own_types N3.out.box N3.out.rs tabInt))
              have NS := Lib.hid (N3.out.sized op9 gp9)
              clear op9 gp9
              refine wpAnyH_take (i := 7) (v := ?_) rfl (by kernel_rfl) (by kernel_rfl) (by kernel_rfl) (fun _ _ _ h => h) (Or.inl ⟨by rfl, ?_⟩) trivial ?_; rotate_left 1; (focus (intro w hSw; go_simp; (try with_reducible rfl))); (try simp only [Act.put, List.setIfInBounds_toArray, List.set_cons_zero, List.set_cons_succ])
              have cx9 := own_at B9.out (j := 0) rfl
              have cz9 : gt < w9.heap.size := World.block_lt_of_cell? w9 _ cx9
              have cf9 := B9.out.frozenAt 0
              refine wpAnyH_ready (rs := [8]) (by kernel_rfl) (by simp) ?_; refine AllReadyH.cons rfl (fun K hK => ?_) AllReadyH.nil; go_simp; (try simp only [Act.put, List.setIfInBounds_toArray, List.set_cons_zero, List.set_cons_succ]); (try go_wp2_with fail); refine hK.out _ _ trivial fun _ => ?_; clear hK K; (try simp only [Act.put, List.setIfInBounds_toArray, List.set_cons_zero, List.set_cons_succ])
              clear cx9 cz9 cf9
              refine wpAnyH_done (by kernel_rfl) ?_ _
            rotate_left 1
          rotate_left 2
        rotate_left 3
        all_goals
          (try simp only [List.getElem_toArray, List.getElem_cons_succ, List.getElem_cons_zero, List.setIfInBounds_toArray, List.set_cons_succ, List.set_cons_zero])
          have hA9 : ∃ q9, A9 = some ⟨q9, 0, none⟩ := by
            obtain ⟨q9, cap, hv, _⟩ := NS.out.rs.form (by omega)
            injection hv with hv
            exact ⟨q9, hv⟩
          have HSS := Lib.hid (show ∀ x ∈ ss ++ [u], 0 ≤ x ∧ x ≤ 6 from fun x hx => by
            rcases List.mem_append.1 hx with hx | hx
            · exact hss.out x hx
            · simp at hx; omega)
          have HF := Lib.hid (show KFin w0 g (b + 200) gt _ from ⟨A9, n + 1, c9, _, m, d, ss ++ [u], bs, by omega, by omega, HSS.out, hbs, hA9, .inr hB, NS.out.mono (by omega)⟩)
          clear NS B9
          generalize w9.setCell _ _ = WF at *
          obtain ⟨A, n, c, B, m, d, ss, bs, hn6, hm6, hss, hbs, hA, hB, hst⟩ := HF.out
          have N3 := Lib.hid hst
          have c0 := own_at N3.out.box (j := 0) rfl
          have c1 := own_at N3.out.box (j := 1) rfl
          have cz : gt < WF.heap.size := World.block_lt_of_cell? WF _ c0
          clear hst HF
          go_wp2_with (refine wpList_store_own rfl 27 (.tmp 2) (.tmp 124) rfl w0.heap.size 0 [.slice A n c, .slice B m d] rfl rfl w0.heap.size 27 2 1 1 _ N3.out.res (by simp) sizeTab rfl ?_; intro w9 ho9 hg9)
          have q0 := own_at ho9 (j := 0) rfl
          have q1 := own_at ho9 (j := 1) rfl
          exact bodyPost_ret (v := .agg #[.slice A n c, .slice B m d]) (by simp [results, Tryd.results35, go_sem, q0, q1]) rfl ⟨_, rfl, ⟨A, n, c, B, m, d, ss, bs, rfl, hn6, hm6, hss, hbs, hA, hB, N3.out.rs.kept hg9 (own_types N3.out.rs N3.out.res (fun e => tabInt e.symm)), N3.out.rb.kept hg9 (own_types N3.out.rb N3.out.res banTab)⟩, (N3.out.cur.kept hg9 (fun x hx => by injection hx with hx; have := N3.out.hg; omega)).mono (by omega), grown_new N3.out.grown hg9 (fun x hx => by injection hx with hx; omega)⟩
      · have d0 : (r == 0) = false := by simpa using e0
        have d0' : decide (r = 0) = false := by simpa using e0
        by_cases e1 : r = 1
        · subst e1
          go_wp2
          refine wp_region_held_drew (S := fun _ => True) (by kernel_rfl) trivial (fun hHeld => ?_)
          have N3 := Lib.hid (N2.out.step (Ext.refl w2).drew)
          refine wpAnyH_take (i := 0) (v := ?_) rfl (by kernel_rfl) (by kernel_rfl) (by kernel_rfl) (fun _ _ _ h => h) (Or.inl ⟨by rfl, ?_⟩) trivial ?_; rotate_left 1; (focus (intro w hSw; go_simp; (try with_reducible rfl))); (try simp only [Act.put, List.setIfInBounds_toArray, List.set_cons_zero, List.set_cons_succ])
          refine wpAnyH_take (i := 2) (v := ?_) rfl (by kernel_rfl) (by kernel_rfl) (by kernel_rfl) (fun _ _ _ h => h) (Or.inl ⟨by rfl, ?_⟩) trivial ?_; rotate_left 1; (focus (intro w hSw; go_simp; (try with_reducible rfl))); (try simp only [Act.put, List.setIfInBounds_toArray, List.set_cons_zero, List.set_cons_succ])
          refine wpAnyH_take (i := 4) (v := ?_) rfl (by kernel_rfl) (by kernel_rfl) (by kernel_rfl) (fun _ _ _ h => h) (Or.inl ⟨by rfl, ?_⟩) trivial ?_; rotate_left 1; (focus (intro w hSw; go_simp; (try with_reducible rfl))); (try simp only [Act.put, List.setIfInBounds_toArray, List.set_cons_zero, List.set_cons_succ])
          refine wpAnyH_take (i := 6) (v := ?_) rfl (by kernel_rfl) (by kernel_rfl) (by kernel_rfl) (fun _ _ _ h => h) (Or.inl ⟨by rfl, ?_⟩) trivial ?_; rotate_left 1; (focus (intro w hSw; go_simp; (try with_reducible rfl))); (try simp only [Act.put, List.setIfInBounds_toArray, List.set_cons_zero, List.set_cons_succ])
          refine wpAnyH_take (i := 8) (v := ?_) rfl (by kernel_rfl) (by kernel_rfl) (by kernel_rfl) (fun _ _ _ h => h) (Or.inl ⟨by rfl, ?_⟩) trivial ?_; rotate_left 1; (focus (intro w hSw; go_simp; (try with_reducible rfl))); (try simp only [Act.put, List.setIfInBounds_toArray, List.set_cons_zero, List.set_cons_succ])
          refine wpAnyH_ready (rs := [1, 3]) (by kernel_rfl) (by simp) ?_; refine AllReadyH.cons rfl (fun K hK => ?_) (AllReadyH.cons rfl (fun K hK => ?_) (AllReadyH.nil))
          focus
            have cx1 := own_at N3.out.box (j := 1) rfl
            have cz1 : gt < w2.heap.size := by have h9 := World.block_lt_of_cell? w2.drew _ cx1; (try simp only [World.size_alloc, World.size_drew] at h9); exact h9
            go_simp; (try simp only [Act.put, List.setIfInBounds_toArray, List.set_cons_zero, List.set_cons_succ]); (try go_wp2_with fail); refine hK.out _ _ trivial fun _ => ?_; clear hK K; (try simp only [Act.put, List.setIfInBounds_toArray, List.set_cons_zero, List.set_cons_succ])
            clear cx1 cz1
            refine wpAnyH_ready (rs := [3]) (by kernel_rfl) (by simp) ?_; refine AllReadyH.cons rfl (fun K hK => ?_) AllReadyH.nil; go_simp; (try simp only [Act.put, List.setIfInBounds_toArray, List.set_cons_zero, List.set_cons_succ]); (try go_wp2_with (go_at_call 52; refine (pick_any g _ 2 _ N3.out.cur (by omega) (by omega)).mono ?_; rintro e w2 ⟨v, rfl, ⟨a, rfl, a0, a1⟩, C2, G2⟩)); refine hK.out _ _ trivial fun _ => ?_; clear hK K; (try simp only [Act.put, List.setIfInBounds_toArray, List.set_cons_zero, List.set_cons_succ])
            have N2 := Lib.hid (N3.out.draw C2 G2)
            clear C2 G2
            refine wpAnyH_ready (rs := [5]) (by kernel_rfl) (by simp) ?_; refine AllReadyH.cons rfl (fun K hK => ?_) AllReadyH.nil; go_simp; (try simp only [Act.put, List.setIfInBounds_toArray, List.set_cons_zero, List.set_cons_succ]); (try go_wp2_with (go_at_call 52; refine (pick_any g _ 3 _ N2.out.cur (by omega) (by omega)).mono ?_; rintro e w3 ⟨v, rfl, ⟨x, rfl, x0, x1⟩, C3, G3⟩)); refine hK.out _ _ trivial fun _ => ?_; clear hK K; (try simp only [Act.put, List.setIfInBounds_toArray, List.set_cons_zero, List.set_cons_succ])
            have N3 := Lib.hid (N2.out.draw C3 G3)
            clear C3 G3
            refine wpAnyH_ready (rs := [7]) (by kernel_rfl) (by simp) ?_; refine AllReadyH.cons rfl (fun K hK => ?_) AllReadyH.nil; go_simp; (try simp only [Act.put, List.setIfInBounds_toArray, List.set_cons_zero, List.set_cons_succ]); (try go_wp2_with (go_at_call 52; refine (pick_any g _ 3 _ N3.out.cur (by omega) (by omega)).mono ?_; rintro e w4 ⟨v, rfl, ⟨bb, rfl, bb0, bb1⟩, C4, G4⟩)); refine hK.out _ _ trivial fun _ => ?_; clear hK K; (try simp only [Act.put, List.setIfInBounds_toArray, List.set_cons_zero, List.set_cons_succ])
            have N4 := Lib.hid (N3.out.draw C4 G4)
            clear C4 G4
            refine wpAnyH_ready (rs := [9]) (by kernel_rfl) (by simp) ?_; refine AllReadyH.cons rfl (fun K hK => ?_) AllReadyH.nil; go_simp; (try simp only [Act.put, List.setIfInBounds_toArray, List.set_cons_zero, List.set_cons_succ]); (try go_wp2_with (go_at_call 52; refine (pick_any g _ 2 _ N4.out.cur (by omega) (by omega)).mono ?_; rintro e w5 ⟨v, rfl, ⟨y, rfl, y0, y1⟩, C5, G5⟩)); refine hK.out _ _ trivial fun _ => ?_; clear hK K; (try simp only [Act.put, List.setIfInBounds_toArray, List.set_cons_zero, List.set_cons_succ])
            have N5 := Lib.hid (N4.out.draw C5 G5)
            clear C5 G5
            refine wpAnyH_take (i := 10) (v := ?_) rfl (by kernel_rfl) (by kernel_rfl) (by kernel_rfl) (fun _ _ _ h => h) (Or.inl ⟨by rfl, ?_⟩) trivial ?_; rotate_left 1; (focus (intro w hSw; go_simp; (try with_reducible rfl))); (try simp only [Act.put, List.setIfInBounds_toArray, List.set_cons_zero, List.set_cons_succ])
            have N6 := Lib.hid (N5.out.step ((Ext.refl (w5)).alloc (.cells #[.int .i64 a, .int .i64 x, .int .i64 bb, .int .i64 y] 61)))
            refine wpAnyH_ready (rs := [11]) (by kernel_rfl) (by simp) ?_; refine AllReadyH.cons rfl (fun K hK => ?_) AllReadyH.nil; go_simp; (try simp only [Act.put, List.setIfInBounds_toArray, List.set_cons_zero, List.set_cons_succ]); (try go_wp2_with fail); refine hK.out _ _ trivial fun _ => ?_; clear hK K; (try simp only [Act.put, List.setIfInBounds_toArray, List.set_cons_zero, List.set_cons_succ])
            have on6 := own_block (w5) 61 (Ban.cs ⟨a, x, bb, y⟩)
            (try simp only [World.size_alloc, World.size_drew] at on6)
            have ON := Lib.hid on6
            clear on6
            refine wpAnyH_ready (rs := [12]) (by kernel_rfl) (by simp) ?_; refine AllReadyH.cons rfl (fun K hK => ?_) AllReadyH.nil; refine step_app_own rfl (.tmp 96) (.tmp 106) 25 rfl w0.heap.size 61 i1 (.agg #[.int .i64 0, .int .i64 0, .int .i64 0, .int .i64 0]) 4 32 Tryd.underlying25 hj0 hy0v hyy1 hyy2 rfl (by decide) (.slice B m d) m (bs.flatMap Ban.cs) rfl N6.out.rb ⟨w5.heap.size, 0, none⟩ 1 1 (Ban.cs ⟨a, x, bb, y⟩) rfl rfl (fun j u' hj => by rw [Addr.add_mid, Nat.zero_add]; exact own_at ON.out hj) (ban_one _) (by unfold maxLen; omega) (by omega) N6.out.grown.size 107 rfl (m + 1) rfl ((bs ++ [(⟨a, x, bb, y⟩ : Ban)]).flatMap Ban.cs) (bans_snoc _ _) ?_; intro A9 c9 w9 op9 gp9; (try simp only [Act.put, List.setIfInBounds_toArray, List.set_cons_zero, List.set_cons_succ]); refine hK.out _ _ trivial fun _ => ?_; clear hK K; (try simp only [Act.put, List.setIfInBounds_toArray, List.set_cons_zero, List.set_cons_succ])
            have B9 := Lib.hid (N6.out.box.kept gp9 (own_types N6.out.box N6.out.rb tabBan))
            have NS := Lib.hid (N6.out.banned op9 gp9)
            clear op9 gp9
            refine wpAnyH_take (i := 13) (v := ?_) rfl (by kernel_rfl) (by kernel_rfl) (by kernel_rfl) (fun _ _ _ h => h) (Or.inl ⟨by rfl, ?_⟩) trivial ?_; rotate_left 1; (focus (intro w hSw; go_simp; (try with_reducible rfl))); (try simp only [Act.put, List.setIfInBounds_toArray, List.set_cons_zero, List.set_cons_succ])
            have cx9 := own_at B9.out (j := 1) rfl
            have cz9 : gt < w9.heap.size := World.block_lt_of_cell? w9 _ cx9
            have cf9 := B9.out.frozenAt 1
            refine wpAnyH_ready (rs := [14]) (by kernel_rfl) (by simp) ?_; refine AllReadyH.cons rfl (fun K hK => ?_) AllReadyH.nil; go_simp; (try simp only [Act.put, List.setIfInBounds_toArray, List.set_cons_zero, List.set_cons_succ]); (try go_wp2_with fail); refine hK.out _ _ trivial fun _ => ?_; clear hK K; (try simp only [Act.put, List.setIfInBounds_toArray, List.set_cons_zero, List.set_cons_succ])
            clear cx9 cz9 cf9
            refine wpAnyH_done (by kernel_rfl) ?_ _
          rotate_left 1
          focus
            go_simp; (try simp only [Act.put, List.setIfInBounds_toArray, List.set_cons_zero, List.set_cons_succ]); (try go_wp2_with (go_at_call 52; refine (pick_any g _ 2 _ N3.out.cur (by omega) (by omega)).mono ?_; rintro e w1 ⟨v, rfl, ⟨a, rfl, a0, a1⟩, C1, G1⟩)); refine hK.out _ _ trivial fun _ => ?_; clear hK K; (try simp only [Act.put, List.setIfInBounds_toArray, List.set_cons_zero, List.set_cons_succ])
            have N1 := Lib.hid (N3.out.draw C1 G1)
            clear C1 G1
            refine wpAnyH_ready (rs := [1, 5]) (by kernel_rfl) (by simp) ?_; refine AllReadyH.cons rfl (fun K hK => ?_) (AllReadyH.cons rfl (fun K hK => ?_) (AllReadyH.nil))
            focus
              have cx2 := own_at N1.out.box (j := 1) rfl
              have cz2 : gt < w1.heap.size := by have h9 := World.block_lt_of_cell? w1 _ cx2; (try simp only [World.size_alloc, World.size_drew] at h9); exact h9
              go_simp; (try simp only [Act.put, List.setIfInBounds_toArray, List.set_cons_zero, List.set_cons_succ]); (try go_wp2_with fail); refine hK.out _ _ trivial fun _ => ?_; clear hK K; (try simp only [Act.put, List.setIfInBounds_toArray, List.set_cons_zero, List.set_cons_succ])
              clear cx2 cz2
              refine wpAnyH_ready (rs := [5]) (by kernel_rfl) (by simp) ?_; refine AllReadyH.cons rfl (fun K hK => ?_) AllReadyH.nil; go_simp; (try simp only [Act.put, List.setIfInBounds_toArray, List.set_cons_zero, List.set_cons_succ]); (try go_wp2_with (go_at_call 52; refine (pick_any g _ 3 _ N1.out.cur (by omega) (by omega)).mono ?_; rintro e w3 ⟨v, rfl, ⟨x, rfl, x0, x1⟩, C3, G3⟩)); refine hK.out _ _ trivial fun _ => ?_; clear hK K; (try simp only [Act.put, List.setIfInBounds_toArray, List.set_cons_zero, List.set_cons_succ])
              have N3 := Lib.hid (N1.out.draw C3 G3)
              clear C3 G3
              refine wpAnyH_ready (rs := [7]) (by kernel_rfl) (by simp) ?_; refine AllReadyH.cons rfl (fun K hK => ?_) AllReadyH.nil; go_simp; (try simp only [Act.put, List.setIfInBounds_toArray, List.set_cons_zero, List.set_cons_succ]); (try go_wp2_with (go_at_call 52; refine (pick_any g _ 3 _ N3.out.cur (by omega) (by omega)).mono ?_; rintro e w4 ⟨v, rfl, ⟨bb, rfl, bb0, bb1⟩, C4, G4⟩)); refine hK.out _ _ trivial fun _ => ?_; clear hK K; (try simp only [Act.put, List.setIfInBounds_toArray, List.set_cons_zero, List.set_cons_succ])
              have N4 := Lib.hid (N3.out.draw C4 G4)
              clear C4 G4
              refine wpAnyH_ready (rs := [9]) (by kernel_rfl) (by simp) ?_; refine AllReadyH.cons rfl (fun K hK => ?_) AllReadyH.nil; go_simp; (try simp only [Act.put, List.setIfInBounds_toArray, List.set_cons_zero, List.set_cons_succ]); (try go_wp2_with (go_at_call 52; refine (pick_any g _ 2 _ N4.out.cur (by omega) (by omega)).mono ?_; rintro e w5 ⟨v, rfl, ⟨y, rfl, y0, y1⟩, C5, G5⟩)); refine hK.out _ _ trivial fun _ => ?_; clear hK K; (try simp only [Act.put, List.setIfInBounds_toArray, List.set_cons_zero, List.set_cons_succ])
              have N5 := Lib.hid (N4.out.draw C5 G5)
              clear C5 G5
              refine wpAnyH_take (i := 10) (v := ?_) rfl (by kernel_rfl) (by kernel_rfl) (by kernel_rfl) (fun _ _ _ h => h) (Or.inl ⟨by rfl, ?_⟩) trivial ?_; rotate_left 1; (focus (intro w hSw; go_simp; (try with_reducible rfl))); (try simp only [Act.put, List.setIfInBounds_toArray, List.set_cons_zero, List.set_cons_succ])
              have N6 := Lib.hid (N5.out.step ((Ext.refl (w5)).alloc (.cells #[.int .i64 a, .int .i64 x, .int .i64 bb, .int .i64 y] 61)))
              refine wpAnyH_ready (rs := [11]) (by kernel_rfl) (by simp) ?_; refine AllReadyH.cons rfl (fun K hK => ?_) AllReadyH.nil; go_simp; (try simp only [Act.put, List.setIfInBounds_toArray, List.set_cons_zero, List.set_cons_succ]); (try go_wp2_with fail); refine hK.out _ _ trivial fun _ => ?_; clear hK K; (try simp only [Act.put, List.setIfInBounds_toArray, List.set_cons_zero, List.set_cons_succ])
              have on6 := own_block (w5) 61 (Ban.cs ⟨a, x, bb, y⟩)
              (try simp only [World.size_alloc, World.size_drew] at on6)
              have ON := Lib.hid on6
              clear on6
              refine wpAnyH_ready (rs := [12]) (by kernel_rfl) (by simp) ?_; refine AllReadyH.cons rfl (fun K hK => ?_) AllReadyH.nil; refine step_app_own rfl (.tmp 96) (.tmp 106) 25 rfl w0.heap.size 61 i1 (.agg #[.int .i64 0, .int .i64 0, .int .i64 0, .int .i64 0]) 4 32 Tryd.underlying25 hj0 hy0v hyy1 hyy2 rfl (by decide) (.slice B m d) m (bs.flatMap Ban.cs) rfl N6.out.rb ⟨w5.heap.size, 0, none⟩ 1 1 (Ban.cs ⟨a, x, bb, y⟩) rfl rfl (fun j u' hj => by rw [Addr.add_mid, Nat.zero_add]; exact own_at ON.out hj) (ban_one _) (by unfold maxLen; omega) (by omega) N6.out.grown.size 107 rfl (m + 1) rfl ((bs ++ [(⟨a, x, bb, y⟩ : Ban)]).flatMap Ban.cs) (bans_snoc _ _) ?_; intro A9 c9 w9 op9 gp9; (try simp only [Act.put, List.setIfInBounds_toArray, List.set_cons_zero, List.set_cons_succ]); refine hK.out _ _ trivial fun _ => ?_; clear hK K; (try simp only [Act.put, List.setIfInBounds_toArray, List.set_cons_zero, List.set_cons_succ])
              have B9 := Lib.hid (N6.out.box.kept gp9 (own_types N6.out.box N6.out.rb tabBan))
              have NS := Lib.hid (N6.out.banned op9 gp9)
              clear op9 gp9
              refine wpAnyH_take (i := 13) (v := ?_) rfl (by kernel_rfl) (by kernel_rfl) (by kernel_rfl) (fun _ _ _ h => h) (Or.inl ⟨by rfl, ?_⟩) trivial ?_; rotate_left 1; (focus (intro w hSw; go_simp; (try with_reducible rfl))); (try simp only [Act.put, List.setIfInBounds_toArray, List.set_cons_zero, List.set_cons_succ])
              have cx9 := own_at B9.out (j := 1) rfl
              have cz9 : gt < w9.heap.size := World.block_lt_of_cell? w9 _ cx9
              have cf9 := B9.out.frozenAt 1
              refine wpAnyH_ready (rs := [14]) (by kernel_rfl) (by simp) ?_; refine AllReadyH.cons rfl (fun K hK => ?_) AllReadyH.nil; go_simp; (try simp only [Act.put, List.setIfInBounds_toArray, List.set_cons_zero, List.set_cons_succ]); (try go_wp2_with fail); refine hK.out _ _ trivial fun _ => ?_; clear hK K; (try simp only [Act.put, List.setIfInBounds_toArray, List.set_cons_zero, List.set_cons_succ])
              clear cx9 cz9 cf9
              refine wpAnyH_done (by kernel_rfl) ?_ _
            rotate_left 1
            focus
              go_simp; (try simp only [Act.put, List.setIfInBounds_toArray, List.set_cons_zero, List.set_cons_succ]); (try go_wp2_with (go_at_call 52; refine (pick_any g _ 3 _ N1.out.cur (by omega) (by omega)).mono ?_; rintro e w2 ⟨v, rfl, ⟨x, rfl, x0, x1⟩, C2, G2⟩)); refine hK.out _ _ trivial fun _ => ?_; clear hK K; (try simp only [Act.put, List.setIfInBounds_toArray, List.set_cons_zero, List.set_cons_succ])
              have N2 := Lib.hid (N1.out.draw C2 G2)
              clear C2 G2
              refine wpAnyH_ready (rs := [1, 7]) (by kernel_rfl) (by simp) ?_; refine AllReadyH.cons rfl (fun K hK => ?_) (AllReadyH.cons rfl (fun K hK => ?_) (AllReadyH.nil))
              focus
                have cx3 := own_at N2.out.box (j := 1) rfl
                have cz3 : gt < w2.heap.size := by have h9 := World.block_lt_of_cell? w2 _ cx3; (try simp only [World.size_alloc, World.size_drew] at h9); exact h9
                go_simp; (try simp only [Act.put, List.setIfInBounds_toArray, List.set_cons_zero, List.set_cons_succ]); (try go_wp2_with fail); refine hK.out _ _ trivial fun _ => ?_; clear hK K; (try simp only [Act.put, List.setIfInBounds_toArray, List.set_cons_zero, List.set_cons_succ])
                clear cx3 cz3
                refine wpAnyH_ready (rs := [7]) (by kernel_rfl) (by simp) ?_; refine AllReadyH.cons rfl (fun K hK => ?_) AllReadyH.nil; go_simp; (try simp only [Act.put, List.setIfInBounds_toArray, List.set_cons_zero, List.set_cons_succ]); (try go_wp2_with (go_at_call 52; refine (pick_any g _ 3 _ N2.out.cur (by omega) (by omega)).mono ?_; rintro e w4 ⟨v, rfl, ⟨bb, rfl, bb0, bb1⟩, C4, G4⟩)); refine hK.out _ _ trivial fun _ => ?_; clear hK K; (try simp only [Act.put, List.setIfInBounds_toArray, List.set_cons_zero, List.set_cons_succ])
                have N4 := Lib.hid (N2.out.draw C4 G4)
                clear C4 G4
                refine wpAnyH_ready (rs := [9]) (by kernel_rfl) (by simp) ?_; refine AllReadyH.cons rfl (fun K hK => ?_) AllReadyH.nil; go_simp; (try simp only [Act.put, List.setIfInBounds_toArray, List.set_cons_zero, List.set_cons_succ]); (try go_wp2_with (go_at_call 52; refine (pick_any g _ 2 _ N4.out.cur (by omega) (by omega)).mono ?_; rintro e w5 ⟨v, rfl, ⟨y, rfl, y0, y1⟩, C5, G5⟩)); refine hK.out _ _ trivial fun _ => ?_; clear hK K; (try simp only [Act.put, List.setIfInBounds_toArray, List.set_cons_zero, List.set_cons_succ])
                have N5 := Lib.hid (N4.out.draw C5 G5)
                clear C5 G5
                refine wpAnyH_take (i := 10) (v := ?_) rfl (by kernel_rfl) (by kernel_rfl) (by kernel_rfl) (fun _ _ _ h => h) (Or.inl ⟨by rfl, ?_⟩) trivial ?_; rotate_left 1; (focus (intro w hSw; go_simp; (try with_reducible rfl))); (try simp only [Act.put, List.setIfInBounds_toArray, List.set_cons_zero, List.set_cons_succ])
                have N6 := Lib.hid (N5.out.step ((Ext.refl (w5)).alloc (.cells #[.int .i64 a, .int .i64 x, .int .i64 bb, .int .i64 y] 61)))
                refine wpAnyH_ready (rs := [11]) (by kernel_rfl) (by simp) ?_; refine AllReadyH.cons rfl (fun K hK => ?_) AllReadyH.nil; go_simp; (try simp only [Act.put, List.setIfInBounds_toArray, List.set_cons_zero, List.set_cons_succ]); (try go_wp2_with fail); refine hK.out _ _ trivial fun _ => ?_; clear hK K; (try simp only [Act.put, List.setIfInBounds_toArray, List.set_cons_zero, List.set_cons_succ])
                have on6 := own_block (w5) 61 (Ban.cs ⟨a, x, bb, y⟩)
                (try simp only [World.size_alloc, World.size_drew] at on6)
                have ON := Lib.hid on6
                clear on6
                refine wpAnyH_ready (rs := [12]) (by kernel_rfl) (by simp) ?_; refine AllReadyH.cons rfl (fun K hK => ?_) AllReadyH.nil; refine step_app_own rfl (.tmp 96) (.tmp 106) 25 rfl w0.heap.size 61 i1 (.agg #[.int .i64 0, .int .i64 0, .int .i64 0, .int .i64 0]) 4 32 Tryd.underlying25 hj0 hy0v hyy1 hyy2 rfl (by decide) (.slice B m d) m (bs.flatMap Ban.cs) rfl N6.out.rb ⟨w5.heap.size, 0, none⟩ 1 1 (Ban.cs ⟨a, x, bb, y⟩) rfl rfl (fun j u' hj => by rw [Addr.add_mid, Nat.zero_add]; exact own_at ON.out hj) (ban_one _) (by unfold maxLen; omega) (by omega) N6.out.grown.size 107 rfl (m + 1) rfl ((bs ++ [(⟨a, x, bb, y⟩ : Ban)]).flatMap Ban.cs) (bans_snoc _ _) ?_; intro A9 c9 w9 op9 gp9; (try simp only [Act.put, List.setIfInBounds_toArray, List.set_cons_zero, List.set_cons_succ]); refine hK.out _ _ trivial fun _ => ?_; clear hK K; (try simp only [Act.put, List.setIfInBounds_toArray, List.set_cons_zero, List.set_cons_succ])
                have B9 := Lib.hid (N6.out.box.kept gp9 (own_types N6.out.box N6.out.rb tabBan))
                have NS := Lib.hid (N6.out.banned op9 gp9)
                clear op9 gp9
                refine wpAnyH_take (i := 13) (v := ?_) rfl (by kernel_rfl) (by kernel_rfl) (by kernel_rfl) (fun _ _ _ h => h) (Or.inl ⟨by rfl, ?_⟩) trivial ?_; rotate_left 1; (focus (intro w hSw; go_simp; (try with_reducible rfl))); (try simp only [Act.put, List.setIfInBounds_toArray, List.set_cons_zero, List.set_cons_succ])
                have cx9 := own_at B9.out (j := 1) rfl
                have cz9 : gt < w9.heap.size := World.block_lt_of_cell? w9 _ cx9
                have cf9 := B9.out.frozenAt 1
                refine wpAnyH_ready (rs := [14]) (by kernel_rfl) (by simp) ?_; refine AllReadyH.cons rfl (fun K hK => ?_) AllReadyH.nil; go_simp; (try simp only [Act.put, List.setIfInBounds_toArray, List.set_cons_zero, List.set_cons_succ]); (try go_wp2_with fail); refine hK.out _ _ trivial fun _ => ?_; clear hK K; (try simp only [Act.put, List.setIfInBounds_toArray, List.set_cons_zero, List.set_cons_succ])
                clear cx9 cz9 cf9
                refine wpAnyH_done (by kernel_rfl) ?_ _
              rotate_left 1
              focus
                go_simp; (try simp only [Act.put, List.setIfInBounds_toArray, List.set_cons_zero, List.set_cons_succ]); (try go_wp2_with (go_at_call 52; refine (pick_any g _ 3 _ N2.out.cur (by omega) (by omega)).mono ?_; rintro e w3 ⟨v, rfl, ⟨bb, rfl, bb0, bb1⟩, C3, G3⟩)); refine hK.out _ _ trivial fun _ => ?_; clear hK K; (try simp only [Act.put, List.setIfInBounds_toArray, List.set_cons_zero, List.set_cons_succ])
                have N3 := Lib.hid (N2.out.draw C3 G3)
                clear C3 G3
                refine wpAnyH_ready (rs := [1, 9]) (by kernel_rfl) (by simp) ?_; refine AllReadyH.cons rfl (fun K hK => ?_) (AllReadyH.cons rfl (fun K hK => ?_) (AllReadyH.nil))
                focus
                  have cx4 := own_at N3.out.box (j := 1) rfl
                  have cz4 : gt < w3.heap.size := by have h9 := World.block_lt_of_cell? w3 _ cx4; (try simp only [World.size_alloc, World.size_drew] at h9); exact h9
                  go_simp; (try simp only [Act.put, List.setIfInBounds_toArray, List.set_cons_zero, List.set_cons_succ]); (try go_wp2_with fail); refine hK.out _ _ trivial fun _ => ?_; clear hK K; (try simp only [Act.put, List.setIfInBounds_toArray, List.set_cons_zero, List.set_cons_succ])
                  clear cx4 cz4
                  refine wpAnyH_ready (rs := [9]) (by kernel_rfl) (by simp) ?_; refine AllReadyH.cons rfl (fun K hK => ?_) AllReadyH.nil; go_simp; (try simp only [Act.put, List.setIfInBounds_toArray, List.set_cons_zero, List.set_cons_succ]); (try go_wp2_with (go_at_call 52; refine (pick_any g _ 2 _ N3.out.cur (by omega) (by omega)).mono ?_; rintro e w5 ⟨v, rfl, ⟨y, rfl, y0, y1⟩, C5, G5⟩)); refine hK.out _ _ trivial fun _ => ?_; clear hK K; (try simp only [Act.put, List.setIfInBounds_toArray, List.set_cons_zero, List.set_cons_succ])
                  have N5 := Lib.hid (N3.out.draw C5 G5)
                  clear C5 G5
                  refine wpAnyH_take (i := 10) (v := ?_) rfl (by kernel_rfl) (by kernel_rfl) (by kernel_rfl) (fun _ _ _ h => h) (Or.inl ⟨by rfl, ?_⟩) trivial ?_; rotate_left 1; (focus (intro w hSw; go_simp; (try with_reducible rfl))); (try simp only [Act.put, List.setIfInBounds_toArray, List.set_cons_zero, List.set_cons_succ])
                  have N6 := Lib.hid (N5.out.step ((Ext.refl (w5)).alloc (.cells #[.int .i64 a, .int .i64 x, .int .i64 bb, .int .i64 y] 61)))
                  refine wpAnyH_ready (rs := [11]) (by kernel_rfl) (by simp) ?_; refine AllReadyH.cons rfl (fun K hK => ?_) AllReadyH.nil; go_simp; (try simp only [Act.put, List.setIfInBounds_toArray, List.set_cons_zero, List.set_cons_succ]); (try go_wp2_with fail); refine hK.out _ _ trivial fun _ => ?_; clear hK K; (try simp only [Act.put, List.setIfInBounds_toArray, List.set_cons_zero, List.set_cons_succ])
                  have on6 := own_block (w5) 61 (Ban.cs ⟨a, x, bb, y⟩)
                  (try simp only [World.size_alloc, World.size_drew] at on6)
                  have ON := Lib.hid on6
                  clear on6
                  refine wpAnyH_ready (rs := [12]) (by kernel_rfl) (by simp) ?_; refine AllReadyH.cons rfl (fun K hK => ?_) AllReadyH.nil; refine step_app_own rfl (.tmp 96) (.tmp 106) 25 rfl w0.heap.size 61 i1 (.agg #[.int .i64 0, .int .i64 0, .int .i64 0, .int .i64 0]) 4 32 Tryd.underlying25 hj0 hy0v hyy1 hyy2 rfl (by decide) (.slice B m d) m (bs.flatMap Ban.cs) rfl N6.out.rb ⟨w5.heap.size, 0, none⟩ 1 1 (Ban.cs ⟨a, x, bb, y⟩) rfl rfl (fun j u' hj => by rw [Addr.add_mid, Nat.zero_add]; exact own_at ON.out hj) (ban_one _) (by unfold maxLen; omega) (by omega) N6.out.grown.size 107 rfl (m + 1) rfl ((bs ++ [(⟨a, x, bb, y⟩ : Ban)]).flatMap Ban.cs) (bans_snoc _ _) ?_; intro A9 c9 w9 op9 gp9; (try simp only [Act.put, List.setIfInBounds_toArray, List.set_cons_zero, List.set_cons_succ]); refine hK.out _ _ trivial fun _ => ?_; clear hK K; (try simp only [Act.put, List.setIfInBounds_toArray, List.set_cons_zero, List.set_cons_succ])
                  have B9 := Lib.hid (N6.out.box.kept gp9 (own_types N6.out.box N6.out.rb tabBan))
                  have NS := Lib.hid (N6.out.banned op9 gp9)
                  clear op9 gp9
                  refine wpAnyH_take (i := 13) (v := ?_) rfl (by kernel_rfl) (by kernel_rfl) (by kernel_rfl) (fun _ _ _ h => h) (Or.inl ⟨by rfl, ?_⟩) trivial ?_; rotate_left 1; (focus (intro w hSw; go_simp; (try with_reducible rfl))); (try simp only [Act.put, List.setIfInBounds_toArray, List.set_cons_zero, List.set_cons_succ])
                  have cx9 := own_at B9.out (j := 1) rfl
                  have cz9 : gt < w9.heap.size := World.block_lt_of_cell? w9 _ cx9
                  have cf9 := B9.out.frozenAt 1
                  refine wpAnyH_ready (rs := [14]) (by kernel_rfl) (by simp) ?_; refine AllReadyH.cons rfl (fun K hK => ?_) AllReadyH.nil; go_simp; (try simp only [Act.put, List.setIfInBounds_toArray, List.set_cons_zero, List.set_cons_succ]); (try go_wp2_with fail); refine hK.out _ _ trivial fun _ => ?_; clear hK K; (try simp only [Act.put, List.setIfInBounds_toArray, List.set_cons_zero, List.set_cons_succ])
                  clear cx9 cz9 cf9
                  refine wpAnyH_done (by kernel_rfl) ?_ _
                rotate_left 1
                focus
                  go_simp; (try simp only [Act.put, List.setIfInBounds_toArray, List.set_cons_zero, List.set_cons_succ]); (try go_wp2_with (go_at_call 52; refine (pick_any g _ 2 _ N3.out.cur (by omega) (by omega)).mono ?_; rintro e w4 ⟨v, rfl, ⟨y, rfl, y0, y1⟩, C4, G4⟩)); refine hK.out _ _ trivial fun _ => ?_; clear hK K; (try simp only [Act.put, List.setIfInBounds_toArray, List.set_cons_zero, List.set_cons_succ])
                  have N4 := Lib.hid (N3.out.draw C4 G4)
                  clear C4 G4
                  refine wpAnyH_take (i := 10) (v := ?_) rfl (by kernel_rfl) (by kernel_rfl) (by kernel_rfl) (fun _ _ _ h => h) (Or.inl ⟨by rfl, ?_⟩) trivial ?_; rotate_left 1; (focus (intro w hSw; go_simp; (try with_reducible rfl))); (try simp only [Act.put, List.setIfInBounds_toArray, List.set_cons_zero, List.set_cons_succ])
                  refine wpAnyH_ready (rs := [1, 11]) (by kernel_rfl) (by simp) ?_; refine AllReadyH.cons rfl (fun K hK => ?_) (AllReadyH.cons rfl (fun K hK => ?_) (AllReadyH.nil))
                  focus
                    have cx5 := own_at N4.out.box (j := 1) rfl
                    have cz5 : gt < w4.heap.size := by have h9 := World.block_lt_of_cell? w4 _ cx5; (try simp only [World.size_alloc, World.size_drew] at h9); exact h9
                    go_simp; (try simp only [Act.put, List.setIfInBounds_toArray, List.set_cons_zero, List.set_cons_succ]); (try go_wp2_with fail); refine hK.out _ _ trivial fun _ => ?_; clear hK K; (try simp only [Act.put, List.setIfInBounds_toArray, List.set_cons_zero, List.set_cons_succ])
                    clear cx5 cz5
                    have N6 := Lib.hid (N4.out.step ((Ext.refl (w4)).alloc (.cells #[.int .i64 a, .int .i64 x, .int .i64 bb, .int .i64 y] 61)))
                    refine wpAnyH_ready (rs := [11]) (by kernel_rfl) (by simp) ?_; refine AllReadyH.cons rfl (fun K hK => ?_) AllReadyH.nil; go_simp; (try simp only [Act.put, List.setIfInBounds_toArray, List.set_cons_zero, List.set_cons_succ]); (try go_wp2_with fail); refine hK.out _ _ trivial fun _ => ?_; clear hK K; (try simp only [Act.put, List.setIfInBounds_toArray, List.set_cons_zero, List.set_cons_succ])
                    have on6 := own_block (w4) 61 (Ban.cs ⟨a, x, bb, y⟩)
                    (try simp only [World.size_alloc, World.size_drew] at on6)
                    have ON := Lib.hid on6
                    clear on6
                    refine wpAnyH_ready (rs := [12]) (by kernel_rfl) (by simp) ?_; refine AllReadyH.cons rfl (fun K hK => ?_) AllReadyH.nil; refine step_app_own rfl (.tmp 96) (.tmp 106) 25 rfl w0.heap.size 61 i1 (.agg #[.int .i64 0, .int .i64 0, .int .i64 0, .int .i64 0]) 4 32 Tryd.underlying25 hj0 hy0v hyy1 hyy2 rfl (by decide) (.slice B m d) m (bs.flatMap Ban.cs) rfl N6.out.rb ⟨w4.heap.size, 0, none⟩ 1 1 (Ban.cs ⟨a, x, bb, y⟩) rfl rfl (fun j u' hj => by rw [Addr.add_mid, Nat.zero_add]; exact own_at ON.out hj) (ban_one _) (by unfold maxLen; omega) (by omega) N6.out.grown.size 107 rfl (m + 1) rfl ((bs ++ [(⟨a, x, bb, y⟩ : Ban)]).flatMap Ban.cs) (bans_snoc _ _) ?_; intro A9 c9 w9 op9 gp9; (try simp only [Act.put, List.setIfInBounds_toArray, List.set_cons_zero, List.set_cons_succ]); refine hK.out _ _ trivial fun _ => ?_; clear hK K; (try simp only [Act.put, List.setIfInBounds_toArray, List.set_cons_zero, List.set_cons_succ])
                    have B9 := Lib.hid (N6.out.box.kept gp9 (own_types N6.out.box N6.out.rb tabBan))
                    have NS := Lib.hid (N6.out.banned op9 gp9)
                    clear op9 gp9
                    refine wpAnyH_take (i := 13) (v := ?_) rfl (by kernel_rfl) (by kernel_rfl) (by kernel_rfl) (fun _ _ _ h => h) (Or.inl ⟨by rfl, ?_⟩) trivial ?_; rotate_left 1; (focus (intro w hSw; go_simp; (try with_reducible rfl))); (try simp only [Act.put, List.setIfInBounds_toArray, List.set_cons_zero, List.set_cons_succ])
                    have cx9 := own_at B9.out (j := 1) rfl
                    have cz9 : gt < w9.heap.size := World.block_lt_of_cell? w9 _ cx9
                    have cf9 := B9.out.frozenAt 1
                    refine wpAnyH_ready (rs := [14]) (by kernel_rfl) (by simp) ?_; refine AllReadyH.cons rfl (fun K hK => ?_) AllReadyH.nil; go_simp; (try simp only [Act.put, List.setIfInBounds_toArray, List.set_cons_zero, List.set_cons_succ]); (try go_wp2_with fail); refine hK.out _ _ trivial fun _ => ?_; clear hK K; (try simp only [Act.put, List.setIfInBounds_toArray, List.set_cons_zero, List.set_cons_succ])
                    clear cx9 cz9 cf9
                    refine wpAnyH_done (by kernel_rfl) ?_ _
                  rotate_left 1
                  focus
                    have N5 := Lib.hid (N4.out.step ((Ext.refl (w4)).alloc (.cells #[.int .i64 a, .int .i64 x, .int .i64 bb, .int .i64 y] 61)))
                    go_simp; (try simp only [Act.put, List.setIfInBounds_toArray, List.set_cons_zero, List.set_cons_succ]); (try go_wp2_with fail); refine hK.out _ _ trivial fun _ => ?_; clear hK K; (try simp only [Act.put, List.setIfInBounds_toArray, List.set_cons_zero, List.set_cons_succ])
                    have on5 := own_block (w4) 61 (Ban.cs ⟨a, x, bb, y⟩)
                    (try simp only [World.size_alloc, World.size_drew] at on5)
                    have ON := Lib.hid on5
                    clear on5
                    have cx6 := own_at N5.out.box (j := 1) rfl
                    have cz6 : gt < w4.heap.size + 1 := by have h9 := World.block_lt_of_cell? (w4.alloc (.cells #[.int .i64 a, .int .i64 x, .int .i64 bb, .int .i64 y] 61)) _ cx6; (try simp only [World.size_alloc, World.size_drew] at h9); exact h9
                    have cy6 := own_at N4.out.box (j := 1) rfl
                    have cu6 : gt < w4.heap.size := by have h9 := World.block_lt_of_cell? w4 _ cy6; (try simp only [World.size_alloc, World.size_drew] at h9); exact h9
                    have cv6 : ¬ gt = w4.heap.size := by omega
                    refine wpAnyH_ready (rs := [1]) (by kernel_rfl) (by simp) ?_; refine AllReadyH.cons rfl (fun K hK => ?_) AllReadyH.nil; go_simp; (try simp only [Act.put, List.setIfInBounds_toArray, List.set_cons_zero, List.set_cons_succ]); (try go_wp2_with fail); refine hK.out _ _ trivial fun _ => ?_; clear hK K; (try simp only [Act.put, List.setIfInBounds_toArray, List.set_cons_zero, List.set_cons_succ])
                    clear cx6 cz6 cy6 cu6 cv6
                    refine wpAnyH_ready (rs := [12]) (by kernel_rfl) (by simp) ?_; refine AllReadyH.cons rfl (fun K hK => ?_) AllReadyH.nil; refine step_app_own rfl (.tmp 96) (.tmp 106) 25 rfl w0.heap.size 61 i1 (.agg #[.int .i64 0, .int .i64 0, .int .i64 0, .int .i64 0]) 4 32 Tryd.underlying25 hj0 hy0v hyy1 hyy2 rfl (by decide) (.slice B m d) m (bs.flatMap Ban.cs) rfl N5.out.rb ⟨w4.heap.size, 0, none⟩ 1 1 (Ban.cs ⟨a, x, bb, y⟩) rfl rfl (fun j u' hj => by rw [Addr.add_mid, Nat.zero_add]; exact own_at ON.out hj) (ban_one _) (by unfold maxLen; omega) (by omega) N5.out.grown.size 107 rfl (m + 1) rfl ((bs ++ [(⟨a, x, bb, y⟩ : Ban)]).flatMap Ban.cs) (bans_snoc _ _) ?_; intro A9 c9 w9 op9 gp9; (try simp only [Act.put, List.setIfInBounds_toArray, List.set_cons_zero, List.set_cons_succ]); refine hK.out _ _ trivial fun _ => ?_; clear hK K; (try simp only [Act.put, List.setIfInBounds_toArray, List.set_cons_zero, List.set_cons_succ])
                    have B9 := Lib.hid (N5.out.box.kept gp9 (own_types N5.out.box N5.out.rb tabBan))
                    have NS := Lib.hid (N5.out.banned op9 gp9)
                    clear op9 gp9
                    refine wpAnyH_take (i := 13) (v := ?_) rfl (by kernel_rfl) (by kernel_rfl) (by kernel_rfl) (fun _ _ _ h => h) (Or.inl ⟨by rfl, ?_⟩) trivial ?_; rotate_left 1; (focus (intro w hSw; go_simp; (try with_reducible rfl))); (try simp only [Act.put, List.setIfInBounds_toArray, List.set_cons_zero, List.set_cons_succ])
                    have cx9 := own_at B9.out (j := 1) rfl
                    have cz9 : gt < w9.heap.size := World.block_lt_of_cell? w9 _ cx9
                    have cf9 := B9.out.frozenAt 1
                    refine wpAnyH_ready (rs := [14]) (by kernel_rfl) (by simp) ?_; refine AllReadyH.cons rfl (fun K hK => ?_) AllReadyH.nil; go_simp; (try simp only [Act.put, List.setIfInBounds_toArray, List.set_cons_zero, List.set_cons_succ]); (try go_wp2_with fail); refine hK.out _ _ trivial fun _ => ?_; clear hK K; (try simp only [Act.put, List.setIfInBounds_toArray, List.set_cons_zero, List.set_cons_succ])
                    clear cx9 cz9 cf9
                    refine wpAnyH_done (by kernel_rfl) ?_ _
                  rotate_left 1
                rotate_left 2
              rotate_left 3
            rotate_left 4
          rotate_left 5
          all_goals
            (try simp only [List.getElem_toArray, List.getElem_cons_succ, List.getElem_cons_zero, List.setIfInBounds_toArray, List.set_cons_succ, List.set_cons_zero])
            have hA9 : ∃ q9, A9 = some ⟨q9, 0, none⟩ := by
              obtain ⟨q9, cap, hv, _⟩ := NS.out.rb.form (by omega)
              injection hv with hv
              exact ⟨q9, hv⟩
            have HBS := Lib.hid (show ∀ z ∈ bs ++ [(⟨a, x, bb, y⟩ : Ban)], BanSm z from fun z hz => by
              rcases List.mem_append.1 hz with hz | hz
              · exact hbs.out z hz
              · simp at hz; subst hz; exact ⟨smI a (by omega) (by omega), smI x (by omega) (by omega), smI bb (by omega) (by omega), smI y (by omega) (by omega)⟩)
            have HF := Lib.hid (show KFin w0 g (b + 200) gt _ from ⟨_, n, c, A9, m + 1, c9, ss, _, by omega, by omega, hss, HBS.out, hA, .inr hA9, NS.out.mono (by omega)⟩)
            clear NS B9
            generalize w9.setCell _ _ = WF at *
            obtain ⟨A, n, c, B, m, d, ss, bs, hn6, hm6, hss, hbs, hA, hB, hst⟩ := HF.out
            have N3 := Lib.hid hst
            have c0 := own_at N3.out.box (j := 0) rfl
            have c1 := own_at N3.out.box (j := 1) rfl
            have cz : gt < WF.heap.size := World.block_lt_of_cell? WF _ c0
            clear hst HF
            go_wp2_with (refine wpList_store_own rfl 27 (.tmp 2) (.tmp 124) rfl w0.heap.size 0 [.slice A n c, .slice B m d] rfl rfl w0.heap.size 27 2 1 1 _ N3.out.res (by simp) sizeTab rfl ?_; intro w9 ho9 hg9)
            have q0 := own_at ho9 (j := 0) rfl
            have q1 := own_at ho9 (j := 1) rfl
            exact bodyPost_ret (v := .agg #[.slice A n c, .slice B m d]) (by simp [results, Tryd.results35, go_sem, q0, q1]) rfl ⟨_, rfl, ⟨A, n, c, B, m, d, ss, bs, rfl, hn6, hm6, hss, hbs, hA, hB, N3.out.rs.kept hg9 (own_types N3.out.rs N3.out.res (fun e => tabInt e.symm)), N3.out.rb.kept hg9 (own_types N3.out.rb N3.out.res banTab)⟩, (N3.out.cur.kept hg9 (fun x hx => by injection hx with hx; have := N3.out.hg; omega)).mono (by omega), grown_new N3.out.grown hg9 (fun x hx => by injection hx with hx; omega)⟩
        · have d1 : (r == 1) = false := by simpa using e1
          have d1' : decide (r = 1) = false := by simpa using e1
          by_cases e2 : r = 2
          · subst e2
            have E9 := (Ext.refl w2).alloc (.cells (ints [2, 2, 2, 2, 2, 2]).toArray 3)
            have N3 := Lib.hid (N2.out.step E9)
            have OL := Lib.hid (own_low' (own_list w2 3 [2, 2, 2, 2, 2, 2]) N2.out.grown.size)
            have cz3 : gt < w2.heap.size := (N2.out.box.lt gt rfl).2
            clear E9
            go_wp2_with (refine wpList_store_own rfl 27 (.tmp 3) (.tmp 112) rfl gt 0 [.slice (some ⟨w2.heap.size, 0, none⟩) 6 6, .slice none 0 0] rfl rfl w0.heap.size 27 2 1 1 _ N3.out.box (by simp) sizeTab rfl ?_; intro w8 ho8 hg8)
            have N4 := Lib.hid (KSt.replaced (bs' := []) N3.out OL.out (own_nil _ _ _ _) ho8 hg8)
            have hA2 : ∃ q, (some ⟨w2.heap.size, 0, none⟩ : Option Addr) = some ⟨q, 0, none⟩ := ⟨_, rfl⟩
            clear N2 N3 OL ho8 hg8 cz3 hss hbs hA hB hn4 hm5
            generalize (some ⟨w2.heap.size, 0, none⟩ : Option Addr) = A2 at *
            refine wp_region_held_drew (S := fun _ => True) (by kernel_rfl) trivial (fun hHeld => ?_)
            have N5 := Lib.hid (N4.out.step (Ext.refl w8).drew)
            refine wpAnyH_take (i := 0) (v := ?_) rfl (by kernel_rfl) (by kernel_rfl) (by kernel_rfl) (fun _ _ _ h => h) (Or.inl ⟨by rfl, ?_⟩) trivial ?_; rotate_left 1; (focus (intro w hSw; go_simp; (try with_reducible rfl))); (try simp only [Act.put, List.setIfInBounds_toArray, List.set_cons_zero, List.set_cons_succ])
            refine wpAnyH_take (i := 2) (v := ?_) rfl (by kernel_rfl) (by kernel_rfl) (by kernel_rfl) (fun _ _ _ h => h) (Or.inl ⟨by rfl, ?_⟩) trivial ?_; rotate_left 1; (focus (intro w hSw; go_simp; (try with_reducible rfl))); (try simp only [Act.put, List.setIfInBounds_toArray, List.set_cons_zero, List.set_cons_succ])
            refine wpAnyH_ready (rs := [1, 3]) (by kernel_rfl) (by simp) ?_; refine AllReadyH.cons rfl (fun K hK => ?_) (AllReadyH.cons rfl (fun K hK => ?_) (AllReadyH.nil))
            focus
              have cx1 := own_at N5.out.box (j := 0) rfl
              have cz1 : gt < w8.heap.size := by have h9 := World.block_lt_of_cell? w8.drew _ cx1; (try simp only [World.size_alloc, World.size_drew] at h9); exact h9
              go_simp; (try simp only [Act.put, List.setIfInBounds_toArray, List.set_cons_zero, List.set_cons_succ]); (try go_wp2_with fail); refine hK.out _ _ trivial fun _ => ?_; clear hK K; (try simp only [Act.put, List.setIfInBounds_toArray, List.set_cons_zero, List.set_cons_succ])
              clear cx1 cz1
              refine wpAnyH_ready (rs := [3]) (by kernel_rfl) (by simp) ?_; refine AllReadyH.cons rfl (fun K hK => ?_) AllReadyH.nil; go_simp; (try simp only [Act.put, List.setIfInBounds_toArray, List.set_cons_zero, List.set_cons_succ]); (try go_wp2_with (go_at_call 52; refine (pick_any g _ 2 _ N5.out.cur (by omega) (by omega)).mono ?_; rintro e w2 ⟨v, rfl, ⟨u, rfl, u0, u1⟩, C2, G2⟩)); refine hK.out _ _ trivial fun _ => ?_; clear hK K; (try simp only [Act.put, List.setIfInBounds_toArray, List.set_cons_zero, List.set_cons_succ])
              have N2 := Lib.hid (N5.out.draw C2 G2)
              clear C2 G2
              have wu : IntKind.i64.wrap (5 + u) = 5 + u := IntWalk.i64_in _ (by omega)
              refine wpAnyH_take (i := 4) (v := ?_) rfl (by kernel_rfl) (by kernel_rfl) (by kernel_rfl) (fun _ _ _ h => h) (Or.inl ⟨by rfl, ?_⟩) trivial ?_; rotate_left 1; (focus (intro w hSw; go_simp; (try with_reducible rfl))); (try simp only [Act.put, List.setIfInBounds_toArray, List.set_cons_zero, List.set_cons_succ])
              have hu2 : u = 0 ∨ u = 1 := by omega
              obtain ⟨w9, rfl⟩ : ∃ w9 : World, w9 = w2 := ⟨_, rfl⟩
              rcases hu2 with rfl | rfl
              focus
                refine wpAnyH_take (i := 5) (v := ?_) rfl (by kernel_rfl) (by kernel_rfl) (by kernel_rfl) (fun _ _ _ h => h) (Or.inl ⟨by rfl, ?_⟩) trivial ?_; rotate_left 1; (focus (intro w hSw; go_simp; (try with_reducible rfl))); (try simp only [Act.put, List.setIfInBounds_toArray, List.set_cons_zero, List.set_cons_succ])
                refine wpAnyH_take (i := 6) (v := ?_) rfl (by kernel_rfl) (by kernel_rfl) (by kernel_rfl) (fun _ _ _ h => h) (Or.inl ⟨by rfl, ?_⟩) trivial ?_; rotate_left 1; (focus (intro w hSw; go_simp; (try with_reducible rfl))); (try simp only [Act.put, List.setIfInBounds_toArray, List.set_cons_zero, List.set_cons_succ])
                have cx9 := own_at N2.out.box (j := 0) rfl
                have cz9 : gt < w9.heap.size := World.block_lt_of_cell? w9 _ cx9
                have cf9 := N2.out.box.frozenAt 0
                refine wpAnyH_ready (rs := [7]) (by kernel_rfl) (by simp) ?_; refine AllReadyH.cons rfl (fun K hK => ?_) AllReadyH.nil; go_simp; (try simp only [Act.put, List.setIfInBounds_toArray, List.set_cons_zero, List.set_cons_succ]); (try go_wp2_with fail); refine hK.out _ _ trivial fun _ => ?_; clear hK K; (try simp only [Act.put, List.setIfInBounds_toArray, List.set_cons_zero, List.set_cons_succ])
                clear cx9 cz9 cf9
                refine wpAnyH_done (by kernel_rfl) ?_ _
                have HF := Lib.hid (show KFin w0 g (b + 200) gt (w9.setCell ⟨gt, 0, none⟩ (.slice A2 5 6)) from by
                  obtain ⟨q, rfl⟩ := hA2
                  exact ⟨_, 5, 6, _, 0, 0, [2, 2, 2, 2, 2], [], by omega, by omega, (fun x hx => by simp at hx; omega), (fun x hx => by cases hx), ⟨q, rfl⟩, .inl ⟨rfl, rfl⟩, (KSt.sized N2.out (own_prefix N2.out.rs (show 5 ≤ 6 by omega)) (World.grownBy.refl _ _)).mono (by omega)⟩)
              rotate_left 1
              focus
                refine wpAnyH_take (i := 5) (v := ?_) rfl (by kernel_rfl) (by kernel_rfl) (by kernel_rfl) (fun _ _ _ h => h) (Or.inl ⟨by rfl, ?_⟩) trivial ?_; rotate_left 1; (focus (intro w hSw; go_simp; (try with_reducible rfl))); (try simp only [Act.put, List.setIfInBounds_toArray, List.set_cons_zero, List.set_cons_succ])
                refine wpAnyH_take (i := 6) (v := ?_) rfl (by kernel_rfl) (by kernel_rfl) (by kernel_rfl) (fun _ _ _ h => h) (Or.inl ⟨by rfl, ?_⟩) trivial ?_; rotate_left 1; (focus (intro w hSw; go_simp; (try with_reducible rfl))); (try simp only [Act.put, List.setIfInBounds_toArray, List.set_cons_zero, List.set_cons_succ])
                have cx9 := own_at N2.out.box (j := 0) rfl
                have cz9 : gt < w9.heap.size := World.block_lt_of_cell? w9 _ cx9
                have cf9 := N2.out.box.frozenAt 0
                refine wpAnyH_ready (rs := [7]) (by kernel_rfl) (by simp) ?_; refine AllReadyH.cons rfl (fun K hK => ?_) AllReadyH.nil; go_simp; (try simp only [Act.put, List.setIfInBounds_toArray, List.set_cons_zero, List.set_cons_succ]); (try go_wp2_with fail); refine hK.out _ _ trivial fun _ => ?_; clear hK K; (try simp only [Act.put, List.setIfInBounds_toArray, List.set_cons_zero, List.set_cons_succ])
                clear cx9 cz9 cf9
                refine wpAnyH_done (by kernel_rfl) ?_ _
                have HF := Lib.hid (show KFin w0 g (b + 200) gt (w9.setCell ⟨gt, 0, none⟩ (.slice A2 6 6)) from by
                  obtain ⟨q, rfl⟩ := hA2
                  exact ⟨_, 6, 6, _, 0, 0, [2, 2, 2, 2, 2, 2], [], by omega, by omega, (fun x hx => by simp at hx; omega), (fun x hx => by cases hx), ⟨q, rfl⟩, .inl ⟨rfl, rfl⟩, (KSt.sized N2.out (own_prefix N2.out.rs (show 6 ≤ 6 by omega)) (World.grownBy.refl _ _)).mono (by omega)⟩)
              rotate_left 1
            rotate_left 2
            focus
              go_simp; (try simp only [Act.put, List.setIfInBounds_toArray, List.set_cons_zero, List.set_cons_succ]); (try go_wp2_with (go_at_call 52; refine (pick_any g _ 2 _ N5.out.cur (by omega) (by omega)).mono ?_; rintro e w1 ⟨v, rfl, ⟨u, rfl, u0, u1⟩, C1, G1⟩)); refine hK.out _ _ trivial fun _ => ?_; clear hK K; (try simp only [Act.put, List.setIfInBounds_toArray, List.set_cons_zero, List.set_cons_succ])
              have N1 := Lib.hid (N5.out.draw C1 G1)
              clear C1 G1
              have wu : IntKind.i64.wrap (5 + u) = 5 + u := IntWalk.i64_in _ (by omega)
              refine wpAnyH_take (i := 4) (v := ?_) rfl (by kernel_rfl) (by kernel_rfl) (by kernel_rfl) (fun _ _ _ h => h) (Or.inl ⟨by rfl, ?_⟩) trivial ?_; rotate_left 1; (focus (intro w hSw; go_simp; (try with_reducible rfl))); (try simp only [Act.put, List.setIfInBounds_toArray, List.set_cons_zero, List.set_cons_succ])
              have cx2 := own_at N1.out.box (j := 0) rfl
              have cz2 : gt < w1.heap.size := by have h9 := World.block_lt_of_cell? w1 _ cx2; (try simp only [World.size_alloc, World.size_drew] at h9); exact h9
              refine wpAnyH_ready (rs := [1]) (by kernel_rfl) (by simp) ?_; refine AllReadyH.cons rfl (fun K hK => ?_) AllReadyH.nil; go_simp; (try simp only [Act.put, List.setIfInBounds_toArray, List.set_cons_zero, List.set_cons_succ]); (try go_wp2_with fail); refine hK.out _ _ trivial fun _ => ?_; clear hK K; (try simp only [Act.put, List.setIfInBounds_toArray, List.set_cons_zero, List.set_cons_succ])
              clear cx2 cz2
              have hu2 : u = 0 ∨ u = 1 := by omega
              obtain ⟨w9, rfl⟩ : ∃ w9 : World, w9 = w1 := ⟨_, rfl⟩
              rcases hu2 with rfl | rfl
              focus
                refine wpAnyH_take (i := 5) (v := ?_) rfl (by kernel_rfl) (by kernel_rfl) (by kernel_rfl) (fun _ _ _ h => h) (Or.inl ⟨by rfl, ?_⟩) trivial ?_; rotate_left 1; (focus (intro w hSw; go_simp; (try with_reducible rfl))); (try simp only [Act.put, List.setIfInBounds_toArray, List.set_cons_zero, List.set_cons_succ])
                refine wpAnyH_take (i := 6) (v := ?_) rfl (by kernel_rfl) (by kernel_rfl) (by kernel_rfl) (fun _ _ _ h => h) (Or.inl ⟨by rfl, ?_⟩) trivial ?_; rotate_left 1; (focus (intro w hSw; go_simp; (try with_reducible rfl))); (try simp only [Act.put, List.setIfInBounds_toArray, List.set_cons_zero, List.set_cons_succ])
                have cx9 := own_at N1.out.box (j := 0) rfl
                have cz9 : gt < w9.heap.size := World.block_lt_of_cell? w9 _ cx9
                have cf9 := N1.out.box.frozenAt 0
                refine wpAnyH_ready (rs := [7]) (by kernel_rfl) (by simp) ?_; refine AllReadyH.cons rfl (fun K hK => ?_) AllReadyH.nil; go_simp; (try simp only [Act.put, List.setIfInBounds_toArray, List.set_cons_zero, List.set_cons_succ]); (try go_wp2_with fail); refine hK.out _ _ trivial fun _ => ?_; clear hK K; (try simp only [Act.put, List.setIfInBounds_toArray, List.set_cons_zero, List.set_cons_succ])
                clear cx9 cz9 cf9
                refine wpAnyH_done (by kernel_rfl) ?_ _
                have HF := Lib.hid (show KFin w0 g (b + 200) gt (w9.setCell ⟨gt, 0, none⟩ (.slice A2 5 6)) from by
                  obtain ⟨q, rfl⟩ := hA2
                  exact ⟨_, 5, 6, _, 0, 0, [2, 2, 2, 2, 2], [], by omega, by omega, (fun x hx => by simp at hx; omega), (fun x hx => by cases hx), ⟨q, rfl⟩, .inl ⟨rfl, rfl⟩, (KSt.sized N1.out (own_prefix N1.out.rs (show 5 ≤ 6 by omega)) (World.grownBy.refl _ _)).mono (by omega)⟩)
              rotate_left 1
              focus
                refine wpAnyH_take (i := 5) (v := ?_) rfl (by kernel_rfl) (by kernel_rfl) (by kernel_rfl) (fun _ _ _ h => h) (Or.inl ⟨by rfl, ?_⟩) trivial ?_; rotate_left 1; (focus (intro w hSw; go_simp; (try with_reducible rfl))); (try simp only [Act.put, List.setIfInBounds_toArray, List.set_cons_zero, List.set_cons_succ])
                refine wpAnyH_take (i := 6) (v := ?_) rfl (by kernel_rfl) (by kernel_rfl) (by kernel_rfl) (fun _ _ _ h => h) (Or.inl ⟨by rfl, ?_⟩) trivial ?_; rotate_left 1; (focus (intro w hSw; go_simp; (try with_reducible rfl))); (try simp only [Act.put, List.setIfInBounds_toArray, List.set_cons_zero, List.set_cons_succ])
                have cx9 := own_at N1.out.box (j := 0) rfl
                have cz9 : gt < w9.heap.size := World.block_lt_of_cell? w9 _ cx9
                have cf9 := N1.out.box.frozenAt 0
                refine wpAnyH_ready (rs := [7]) (by kernel_rfl) (by simp) ?_; refine AllReadyH.cons rfl (fun K hK => ?_) AllReadyH.nil; go_simp; (try simp only [Act.put, List.setIfInBounds_toArray, List.set_cons_zero, List.set_cons_succ]); (try go_wp2_with fail); refine hK.out _ _ trivial fun _ => ?_; clear hK K; (try simp only [Act.put, List.setIfInBounds_toArray, List.set_cons_zero, List.set_cons_succ])
                clear cx9 cz9 cf9
                refine wpAnyH_done (by kernel_rfl) ?_ _
                have HF := Lib.hid (show KFin w0 g (b + 200) gt (w9.setCell ⟨gt, 0, none⟩ (.slice A2 6 6)) from by
                  obtain ⟨q, rfl⟩ := hA2
                  exact ⟨_, 6, 6, _, 0, 0, [2, 2, 2, 2, 2, 2], [], by omega, by omega, (fun x hx => by simp at hx; omega), (fun x hx => by cases hx), ⟨q, rfl⟩, .inl ⟨rfl, rfl⟩, (KSt.sized N1.out (own_prefix N1.out.rs (show 6 ≤ 6 by omega)) (World.grownBy.refl _ _)).mono (by omega)⟩)
              rotate_left 1
            rotate_left 2
            all_goals
              (try simp only [List.getElem_toArray, List.getElem_cons_succ, List.getElem_cons_zero, List.setIfInBounds_toArray, List.set_cons_succ, List.set_cons_zero])
              clear hA2
              generalize w9.setCell _ _ = WF at *
              obtain ⟨A, n, c, B, m, d, ss, bs, hn6, hm6, hss, hbs, hA, hB, hst⟩ := HF.out
              have N3 := Lib.hid hst
              have c0 := own_at N3.out.box (j := 0) rfl
              have c1 := own_at N3.out.box (j := 1) rfl
              have cz : gt < WF.heap.size := World.block_lt_of_cell? WF _ c0
              clear hst HF
              go_wp2_with (refine wpList_store_own rfl 27 (.tmp 2) (.tmp 124) rfl w0.heap.size 0 [.slice A n c, .slice B m d] rfl rfl w0.heap.size 27 2 1 1 _ N3.out.res (by simp) sizeTab rfl ?_; intro w9 ho9 hg9)
              have q0 := own_at ho9 (j := 0) rfl
              have q1 := own_at ho9 (j := 1) rfl
              exact bodyPost_ret (v := .agg #[.slice A n c, .slice B m d]) (by simp [results, Tryd.results35, go_sem, q0, q1]) rfl ⟨_, rfl, ⟨A, n, c, B, m, d, ss, bs, rfl, hn6, hm6, hss, hbs, hA, hB, N3.out.rs.kept hg9 (own_types N3.out.rs N3.out.res (fun e => tabInt e.symm)), N3.out.rb.kept hg9 (own_types N3.out.rb N3.out.res banTab)⟩, (N3.out.cur.kept hg9 (fun x hx => by injection hx with hx; have := N3.out.hg; omega)).mono (by omega), grown_new N3.out.grown hg9 (fun x hx => by injection hx with hx; omega)⟩
          · have d2 : (r == 2) = false := by simpa using e2
            have d2' : decide (r = 2) = false := by simpa using e2
            by_cases e3 : r = 3
            · subst e3
              have E9 := (Ext.refl w2).alloc (.cells #[] 3)
              have N3 := Lib.hid (N2.out.step E9)
              have o9 := own_empty w2 w0.heap.size 3 1 N2.out.grown.size
              have N4 := Lib.hid (N3.out.sized (ss' := []) o9 (World.grownBy.refl _ _))
              have cx9 := own_at N3.out.box (j := 0) rfl
              have cz9 : gt < (w2.alloc (.cells #[] 3)).heap.size := World.block_lt_of_cell? _ _ cx9
              have cf9 := N3.out.box.frozenAt 0
              simp only [World.size_alloc] at cz9
              have HF := Lib.hid (show KFin w0 g (b + 200) gt _ from ⟨_, 0, 0, _, m, d, [], bs, by omega, by omega, (fun x hx => by cases hx), hbs, ⟨_, rfl⟩, .inr hB, N4.out.mono (by omega)⟩)
              go_upto_region 24 with fail
              clear N2 N3 N4 cx9 cz9 cf9
              generalize (w2.alloc (.cells #[] 3)).setCell _ _ = WF at *
              obtain ⟨A, n, c, B, m, d, ss, bs, hn6, hm6, hss, hbs, hA, hB, hst⟩ := HF.out
              have N3 := Lib.hid hst
              have c0 := own_at N3.out.box (j := 0) rfl
              have c1 := own_at N3.out.box (j := 1) rfl
              have cz : gt < WF.heap.size := World.block_lt_of_cell? WF _ c0
              clear hst HF
              go_wp2_with (refine wpList_store_own rfl 27 (.tmp 2) (.tmp 124) rfl w0.heap.size 0 [.slice A n c, .slice B m d] rfl rfl w0.heap.size 27 2 1 1 _ N3.out.res (by simp) sizeTab rfl ?_; intro w9 ho9 hg9)
              have q0 := own_at ho9 (j := 0) rfl
              have q1 := own_at ho9 (j := 1) rfl
              exact bodyPost_ret (v := .agg #[.slice A n c, .slice B m d]) (by simp [results, Tryd.results35, go_sem, q0, q1]) rfl ⟨_, rfl, ⟨A, n, c, B, m, d, ss, bs, rfl, hn6, hm6, hss, hbs, hA, hB, N3.out.rs.kept hg9 (own_types N3.out.rs N3.out.res (fun e => tabInt e.symm)), N3.out.rb.kept hg9 (own_types N3.out.rb N3.out.res banTab)⟩, (N3.out.cur.kept hg9 (fun x hx => by injection hx with hx; have := N3.out.hg; omega)).mono (by omega), grown_new N3.out.grown hg9 (fun x hx => by injection hx with hx; omega)⟩
            · have d3 : (r == 3) = false := by simpa using e3
              have d3' : decide (r = 3) = false := by simpa using e3
              have HF := Lib.hid (show KFin w0 g (b + 200) gt _ from ⟨_, n, c, _, m, d, ss, bs, by omega, by omega, hss, hbs, hA, .inr hB, N2.out.mono (by omega)⟩)
              clear N2
              obtain ⟨WF, rfl⟩ : ∃ WF : World, WF = w2 := ⟨_, rfl⟩
              obtain ⟨A, n, c, B, m, d, ss, bs, hn6, hm6, hss, hbs, hA, hB, hst⟩ := HF.out
              have N3 := Lib.hid hst
              have c0 := own_at N3.out.box (j := 0) rfl
              have c1 := own_at N3.out.box (j := 1) rfl
              have cz : gt < WF.heap.size := World.block_lt_of_cell? WF _ c0
              clear hst HF
              go_wp2_with (refine wpList_store_own rfl 27 (.tmp 2) (.tmp 124) rfl w0.heap.size 0 [.slice A n c, .slice B m d] rfl rfl w0.heap.size 27 2 1 1 _ N3.out.res (by simp) sizeTab rfl ?_; intro w9 ho9 hg9)
              have q0 := own_at ho9 (j := 0) rfl
              have q1 := own_at ho9 (j := 1) rfl
              exact bodyPost_ret (v := .agg #[.slice A n c, .slice B m d]) (by simp [results, Tryd.results35, go_sem, q0, q1]) rfl ⟨_, rfl, ⟨A, n, c, B, m, d, ss, bs, rfl, hn6, hm6, hss, hbs, hA, hB, N3.out.rs.kept hg9 (own_types N3.out.rs N3.out.res (fun e => tabInt e.symm)), N3.out.rb.kept hg9 (own_types N3.out.rb N3.out.res banTab)⟩, (N3.out.cur.kept hg9 (fun x hx => by injection hx with hx; have := N3.out.hg; omega)).mono (by omega), grown_new N3.out.grown hg9 (fun x hx => by injection hx with hx; omega)⟩
end Go.Proofs.YtekggbmpogmlcaaDoor

namespace Go.Proofs.YtekggbmpogmlcaaDoor
open Go.RowKit
set_option linter.unusedVariables false
set_option linter.unusedSimpArgs false
attribute [local go_sem] ExtOf.cell

/-- A table that was drawn: its rows are its own. -/
structure DrawnT (base : Nat) (A : Option Addr) (n c : Nat) (B : Option Addr) (m d : Nat) (ss : List Int) (bs : List Ban) (w : World) : Prop where
  rs : w.ownsRow base 3 1 (.slice A n c) n (ints ss)
  rb : w.ownsRow base 61 4 (.slice B m d) m (bs.flatMap Ban.cs)
  hn : n ≤ 6
  hm : m ≤ 6
  hs : Hid (∀ x ∈ ss, 0 ≤ x ∧ x ≤ 6)
  hb : Hid (∀ x ∈ bs, BanSm x)
  hA : ∃ q, A = some ⟨q, 0, none⟩
  hB : (B = none ∧ bs = []) ∨ ∃ q, B = some ⟨q, 0, none⟩
section
variable {base : Nat} {w w' : World} {A B : Option Addr} {n c m d : Nat} {ss : List Int} {bs : List Ban}
theorem DrawnT.ext (h : DrawnT base A n c B m d ss bs w) (he : Ext w w') : DrawnT base A n c B m d ss bs w' := ⟨he.own h.rs, he.own h.rb, h.hn, h.hm, h.hs, h.hb, h.hA, h.hB⟩
theorem DrawnT.low (h : DrawnT base A n c B m d ss bs w) {b' : Nat} (hb : b' ≤ base) : DrawnT b' A n c B m d ss bs w := ⟨own_low' h.rs hb, own_low' h.rb hb, h.hn, h.hm, h.hs, h.hb, h.hA, h.hB⟩
/-- A table's box is stored to. -/
theorem DrawnT.past (h : DrawnT base A n c B m d ss bs w) {b k : Nat} {v : Value} {cs : List Value} (ho : w.ownsRow b 27 2 v k cs) (hg : w.grownBy w' v.ownBlock) : DrawnT base A n c B m d ss bs w' :=
  ⟨h.rs.kept hg (own_types h.rs ho (fun e => tabInt e.symm)), h.rb.kept hg (own_types h.rb ho banTab), h.hn, h.hm, h.hs, h.hb, h.hA, h.hB⟩
/-- Choices are taken. -/
theorem DrawnT.drawn (h : DrawnT base A n c B m d ss bs w) {g : Nat} (hg : w.grownBy w' (some g)) (hlt : g < base) : DrawnT base A n c B m d ss bs w' := by
  have e : ∀ {T size k : Nat} {v : Value} {cs : List Value}, w.ownsRow base T size v k cs → v.ownBlock = none ∨ v.ownBlock ≠ some g := fun {T size k v cs} ho => by
    rcases hv : v.ownBlock with _ | q
    · exact .inl rfl
    · right
      intro e
      have h1 := (ho.lt q hv).1
      injection e with e
      omega
  exact ⟨h.rs.kept hg (e h.rs), h.rb.kept hg (e h.rb), h.hn, h.hm, h.hs, h.hb, h.hA, h.hB⟩
theorem DrawnT.tab (h : DrawnT base A n c B m d ss bs w) : TabL w A n B m ss bs := by
  have h1 := h.rs.1
  have h2 := h.rb.1
  have h3 := h.hn
  have h4 := h.hm
  rw [ints_length] at h1
  rw [flat_length Ban.cs 4 Ban.len] at h2
  exact ⟨by omega, by omega, fun x hx => wf_i64 (smI x (by have := h.hs.out x hx; omega) (by have := h.hs.out x hx; omega)), Rd.own h.rs, ⟨by omega, by omega, fun x hx => (h.hb.out x hx).wf, Rd.own h.rb⟩⟩
theorem DrawnT.caps (h : DrawnT base A n c B m d ss bs w) : n ≤ c ∧ m ≤ d := ⟨own_le h.rs, own_le h.rb⟩
end
set_option maxRecDepth 100000 in
set_option maxHeartbeats 4000000 in
theorem DrawIsKindTable_any (A : Option Addr) (n c : Nat) (l : List Int) (w : World) (h : CodeOk w A n l) :
    Calls Tryd.prog 20 #[.slice A n c] w fun e w' => ∃ A1 n1 c1 B1 m1 d1 ss bs, e = .returned (.agg #[.slice A1 n1 c1, .slice B1 m1 d1]) ∧ DrawnT w.heap.size A1 n1 c1 B1 m1 d1 ss bs w' ∧ Ext w w' := by
  have OZ := Lib.hid (own_block w 27 [.slice none 0 0, .slice none 0 0])
  have E0 := (Ext.refl w).alloc (.cells #[.slice none 0 0, .slice none 0 0] 27)
  have K := Lib.hid ((h.ext E0).cur c)
  simp only [World.size_alloc] at K
  have nz : Value.ownBlock (.slice (some ⟨w.heap.size, 0, none⟩) 1 1) = none ∨ Value.ownBlock (.slice (some ⟨w.heap.size, 0, none⟩) 1 1) ≠ some (w.heap.size + 1) := Or.inr (by simp [Value.ownBlock])
  go_enter Tryd.func20, Tryd.ntmps20
  go_wp2_with fail
  refine (kindTable_any _ _ _ K.out (by omega)).mono ?_
  rintro e w2 ⟨v, rfl, ⟨A1, n1, c1, B1, m1, d1, ss, bs, rfl, hn, hm, hs, hb, hA, hB, rs, rb⟩, C2, G2⟩
  have OZ5 := Lib.hid (((Ext.refl _).alloc _).own OZ.out |>.kept G2 nz)
  have HD := Lib.hid (show DrawnT w.heap.size A1 n1 c1 B1 m1 d1 ss bs w2 from ⟨own_low' rs (show w.heap.size ≤ _ by simp; omega), own_low' rb (show w.heap.size ≤ _ by simp; omega), hn, hm, hs, hb, hA, hB⟩)
  have G := Lib.hid G2
  clear G2 C2 rs rb hn hm hs hb hA hB
  go_wp2_with (refine wpList_store_own rfl 27 (.tmp 2) (.tmp 8) rfl w.heap.size 0 [.slice A1 n1 c1, .slice B1 m1 d1] rfl rfl w.heap.size 27 2 1 1 _ OZ5.out (by simp) sizeTab rfl ?_; intro w9 ho9 hg9)
  have r0 := own_at ho9 (j := 0) rfl
  have r1 := own_at ho9 (j := 1) rfl
  have EF := Lib.hid ((E0.trans (ext_of_cur (w := w.alloc (.cells #[.slice none 0 0, .slice none 0 0] 27)) (by rw [World.size_alloc]; exact G.out))).row hg9 (Nat.le_refl _))
  exact bodyPost_ret (v := .agg #[.slice A1 n1 c1, .slice B1 m1 d1]) (by simp [results, Tryd.results20, go_sem, r0, r1]) rfl ⟨A1, n1, c1, B1, m1, d1, ss, bs, rfl, DrawnT.past HD.out OZ5.out hg9, EF.out⟩
end Go.Proofs.YtekggbmpogmlcaaDoor

namespace Go.Proofs.YtekggbmpogmlcaaDoor
open Go.RowKit
set_option linter.unusedVariables false
set_option linter.unusedSimpArgs false
attribute [local go_sem] ExtOf.cell

theorem DSt.box {w0 w w' : World} {g b T size n c : Nat} {A : Option Addr} {cs : List Value} (h : DSt w0 g b T size A n c cs w) {T' s' k : Nat} {v : Value} {xs : List Value} (ho : w.ownsRow w0.heap.size T' s' v k xs) (hT : T' ≠ T) (hg : w.grownBy w' (Value.ownBlock (.slice A n c))) : w'.ownsRow w0.heap.size T' s' v k xs :=
  ho.kept hg (own_types ho h.row hT)
set_option maxRecDepth 100000 in
set_option maxHeartbeats 4000000 in
theorem kind_any (g b : Nat) (A : Option Addr) (n c : Nat) (B : Option Addr) (m d : Nat) (ss : List Int) (w : World) (h : Cur w g b) (hb : b ≤ 100000) (hr : Rd w A n 1 (ints ss)) (ho : Off A g) (hn : n ≤ 6) (hs : Hid (∀ x ∈ ss, 0 ≤ x ∧ x ≤ 6)) :
    Calls Tryd.prog 49 #[.pointer (some ⟨g, 0, none⟩), .agg #[.slice A n c, .slice B m d]] w (CurPost g (b + 100) w (fun v w' => ∃ (K : Option Addr) (l e : Nat) (ks : List Int), v = .slice K l e ∧ l ≤ 7 ∧ w'.ownsRow w.heap.size 3 1 (.slice K l e) l (ints ks))) := by
  have hgw := h.lt
  have E1 := (Ext.refl w).alloc (.cells #[.slice A n c, .slice B m d] 27)
  have E2 := E1.alloc (.cells #[] 3)
  have o0 := own_empty (w.alloc (.cells #[.slice A n c, .slice B m d] 27)) w.heap.size 3 1 (by simp)
  simp only [World.size_alloc] at o0
  have N0 := Lib.hid (show DSt w g b 3 1 (some ⟨w.heap.size + 1, 0, none⟩) 0 0 (ints []) ((w.alloc (.cells #[.slice A n c, .slice B m d] 27)).alloc (.cells #[] 3)) from ⟨h.ext E2, o0, grown_of_ext E2, hgw⟩)
  have OZ0 := Lib.hid (((Ext.refl _).alloc (.cells #[] 3)).own (own_block w 27 [.slice A n c, .slice B m d]))
  have nz : Value.ownBlock (.slice (some ⟨w.heap.size, 0, none⟩) 1 1) = none ∨ Value.ownBlock (.slice (some ⟨w.heap.size, 0, none⟩) 1 1) ≠ some g := Or.inr (by simp [Value.ownBlock]; omega)
  have HR := Lib.hid hr
  have HO := Lib.hid ho
  clear h o0 E1 E2 hr ho
  go_enter Tryd.func49, Tryd.ntmps49
  go_wp2
  go_loopw [5, 6] (fun o i wr => ∃ (k q oc : Nat) (l : List Int), k ≤ n ∧ i = .int .i64 k ∧ o = .slice (some ⟨q, 0, none⟩) k oc ∧ DSt w g (b + 2 * k) 3 1 (some ⟨q, 0, none⟩) k oc (ints l) wr ∧ wr.ownsRow w.heap.size 27 2 (.slice (some ⟨w.heap.size, 0, none⟩) 1 1) 1 [.slice A n c, .slice B m d]) (fun _ i _ => n - (intOf i).toNat)
  case atStart => exact ⟨0, _, 0, [], Nat.zero_le _, rfl, rfl, N0.out, OZ0.out⟩
  case round =>
    obtain ⟨k, q, oc, l, hk, rfl, rfl, hst, hoz⟩ := hrel
    have N1 := Lib.hid hst
    have OZ1 := Lib.hid hoz
    have p0 := own_at hoz (j := 0) rfl
    have zp : w.heap.size < wr.heap.size := World.block_lt_of_cell? wr _ p0
    clear hst hoz N0 OZ0
    by_cases hlt : k < n
    · obtain ⟨bb, off, s, rfl, hbb, hx, gs⟩ := (HR.out.grown N1.out.grown HO.out).int hlt
      have hs6 := hs.out s (List.mem_of_getElem? hx.out)
      have hmx : max 1 (min 9 s) ≤ 100000 := by omega
      clear hx
      go_wp2_with (first | (go_at_call 60; refine (l1Least_any _ _ _).mono ?_; rintro e w' ⟨rfl, rfl⟩) | (go_at_call 59; refine (l1Most_any _ _ _).mono ?_; rintro e w' ⟨rfl, rfl⟩) | (go_at_call 52; refine (pick_any g _ _ _ N1.out.cur (by omega) hmx).mono ?_; rintro e w2 ⟨v, rfl, ⟨r, rfl, r0, r1⟩, C2, G2⟩; have N2 := Lib.hid ((N1.out.draw C2 G2).step ((Ext.refl w2).alloc (.cells #[.int .i64 r] 3))); have OZ2 := Lib.hid (((Ext.refl w2).alloc (.cells #[.int .i64 r] 3)).own (OZ1.out.kept G2 nz)); clear C2 G2 p0 zp gs) | (at_builtin; refine app_int rfl _ _ rfl w.heap.size k oc w2.heap.size (some ⟨q, 0, none⟩) l r rfl rfl N2.out.row (new_cell _ _ _ 0 _ rfl) (by omega) N2.out.sz_le ?_; intro O' oc' w' hown hgrow hoff))
      have N3 := Lib.hid (N2.out.app hown hgrow)
      have OZ3 := Lib.hid (N2.out.box OZ2.out tabInt hgrow)
      obtain ⟨q', cap, hv, _⟩ := hown.form (by omega)
      injection hv with hA
      subst hA
      clear hown hgrow hoff
      go_roundw
      case rel => exact ⟨k + 1, q', oc', _, by omega, by go_num, rfl, N3.out.mono (by omega), OZ3.out⟩
      case measure => simp [intOf]; omega
    · obtain rfl : k = n := by omega
      go_wp2_with fail
      refine (pick_any g _ 16 _ N1.out.cur (by omega) (by omega)).mono ?_
      rintro e w1 ⟨v, rfl, ⟨r, rfl, r0, r1⟩, C1, G1⟩
      have N2 := Lib.hid (N1.out.draw C1 G1)
      clear C1 G1 N1 OZ1 p0 zp
      by_cases e0 : r = 0
      · subst e0
        have N3 := Lib.hid (N2.out.step ((Ext.refl w1).alloc (.cells #[.int .i64 0] 3)))
        go_wp2_with (at_builtin; refine app_int rfl _ _ rfl w.heap.size k oc w1.heap.size (some ⟨q, 0, none⟩) l 0 rfl rfl N3.out.row (new_cell _ _ _ 0 _ rfl) (by omega) N3.out.sz_le ?_; intro O' oc' w' hown hgrow hoff)
        have N4 := Lib.hid (N3.out.app hown hgrow)
        clear hown hgrow hoff
        go_ret
        exact ⟨_, rfl, ⟨O', k + 1, oc', _, rfl, by omega, N4.out.row⟩, N4.out.cur.mono (by omega), N4.out.grown⟩
      · have d0 : (r == 0) = false := by simpa using e0
        have d0' : decide (r = 0) = false := by simpa using e0
        by_cases e1 : r = 1
        · subst e1
          by_cases hk0 : 0 < k
          · have y1 : decide ((0 : Int) < (k : Int)) = true := by simp; omega
            have y2 : decide (0 < k) = true := by simp; omega
            have y3 : (0 : Int) < (k : Int) := by omega
            go_wp2_with fail
            refine (among_at g _ _ [-1, 5] (-1) 5 _ _ N2.out.cur rfl (by decide) (by omega) (by decide) (by decide)).mono ?_
            rintro e w2 ⟨v, rfl, ⟨u, rfl, u1, u2⟩, C2, G2⟩
            have N3 := Lib.hid (N2.out.draw C2 G2)
            have f0 := N3.out.row.frozenAt 0
            obtain ⟨v0, hv0⟩ := own_cell (j := 0) N3.out.row (by omega)
            have zq : q < w2.heap.size := World.block_lt_of_cell? w2 _ hv0
            have st := N3.out.row.stored 0 (.int .i64 u)
            have N4 := Lib.hid (N3.out.app st.1 st.2)
            have hst := Lib.hid (show (ints l).set 0 (.int .i64 u) = ints (l.set 0 u) by simp [ints, List.map_set])
            clear C2 G2 st
            go_wp2
            go_ret
            exact ⟨_, rfl, ⟨some ⟨q, 0, none⟩, k, oc, l.set 0 u, rfl, by omega, by rw [← hst.out]; exact N4.out.row⟩, N4.out.cur.mono (by omega), N4.out.grown⟩
          · have y1 : decide ((0 : Int) < (k : Int)) = false := by simp; omega
            have y2 : decide (0 < k) = false := by simp; omega
            go_wp2
            go_ret
            exact ⟨_, rfl, ⟨_, k, oc, _, rfl, by omega, N2.out.row⟩, N2.out.cur.mono (by omega), N2.out.grown⟩
        · have d1 : (r == 1) = false := by simpa using e1
          have d1' : decide (r = 1) = false := by simpa using e1
          go_wp2
          go_ret
          exact ⟨_, rfl, ⟨_, k, oc, _, rfl, by omega, N2.out.row⟩, N2.out.cur.mono (by omega), N2.out.grown⟩
/-- A table that was drawn, and a kind. -/
def DrawnTK (base : Nat) (e : Ending) (w' : World) : Prop := ∃ A1 n1 c1 B1 m1 d1 ss bs K l e1 ks, e = .returned (.tuple #[.agg #[.slice A1 n1 c1, .slice B1 m1 d1], .slice K l e1]) ∧ DrawnT base A1 n1 c1 B1 m1 d1 ss bs w' ∧ l ≤ 7 ∧ w'.ownsRow base 3 1 (.slice K l e1) l (ints ks)
set_option maxRecDepth 100000 in
set_option maxHeartbeats 4000000 in
theorem DrawIsCompatible_any (A : Option Addr) (n c : Nat) (l : List Int) (w : World) (h : CodeOk w A n l) :
    Calls Tryd.prog 29 #[.slice A n c] w fun e w' => DrawnTK w.heap.size e w' ∧ Ext w w' := by
  have OZ := Lib.hid (own_block w 27 [.slice none 0 0, .slice none 0 0])
  have E0 := (Ext.refl w).alloc (.cells #[.slice none 0 0, .slice none 0 0] 27)
  have K := Lib.hid ((h.ext E0).cur c)
  simp only [World.size_alloc] at K
  have nz : Value.ownBlock (.slice (some ⟨w.heap.size, 0, none⟩) 1 1) = none ∨ Value.ownBlock (.slice (some ⟨w.heap.size, 0, none⟩) 1 1) ≠ some (w.heap.size + 1) := Or.inr (by simp [Value.ownBlock])
  clear h
  go_enter Tryd.func29, Tryd.ntmps29
  go_wp2_with fail
  refine (kindTable_any _ _ _ K.out (by omega)).mono ?_
  rintro e w2 ⟨v, rfl, ⟨A1, n1, c1, B1, m1, d1, ss, bs, rfl, hn, hm, hs, hb, hA, hB, rs, rb⟩, C2, G2⟩
  have OZ2 := Lib.hid (((Ext.refl _).alloc _).own OZ.out |>.kept G2 nz)
  have HD := Lib.hid (show DrawnT (w.heap.size + 1 + 1) A1 n1 c1 B1 m1 d1 ss bs w2 from ⟨own_low' rs (by simp), own_low' rb (by simp), hn, hm, hs, hb, hA, hB⟩)
  have HC := Lib.hid C2
  have HG := Lib.hid G2
  have hgz : w.heap.size + 1 < w2.heap.size := C2.lt
  have OFF := Lib.hid (show Off A1 (w.heap.size + 1) from fun b o s e => by subst e; have := (HD.out.rs.lt b rfl).1; omega)
  have HS := Lib.hid hs
  have BX := Lib.hid (own_block w2 27 [.slice A1 n1 c1, .slice B1 m1 d1])
  have b0 := own_at BX.out (j := 0) rfl
  have b1 := own_at BX.out (j := 1) rfl
  have B0 := Lib.hid b0
  have B1' := Lib.hid b1
  clear rs rb hm hb hA hB C2 G2 K OZ
  go_wp2_with fail
  refine wp_region_held_drew (S := (fun w' => w'.cell? ⟨w2.heap.size, 0, none⟩ = some (.slice A1 n1 c1) ∧ w'.cell? ⟨w2.heap.size, 1, none⟩ = some (.slice B1 m1 d1))) (by kernel_rfl) ?_ (fun hHeld => ?_); (focus ((try dsimp only); (repeat' apply And.intro) <;> first | assumption | exact Ext.cell1 (Ext.drew (Ext.refl _)) (by assumption) | (simp [*, go_sem]; done) | (simp [*, go_sem, World.cell?_alloc_past]; done)))
  (refine wpAnyH_take (i := 0) (v := ?_) rfl (by kernel_rfl) (by kernel_rfl) (by kernel_rfl) (fun _ _ _ h => h) (Or.inl ⟨by rfl, ?_⟩) (by assumption) ?_); rotate_left 1; (focus (intro w hSw; (try dsimp only at hSw); go_simp; (try with_reducible rfl))); (try simp only [Act.put, List.setIfInBounds_toArray, List.set_cons_zero, List.set_cons_succ]); (refine wpAnyH_take (i := 1) (v := ?_) rfl (by kernel_rfl) (by kernel_rfl) (by kernel_rfl) (fun _ _ _ h => h) (Or.inl ⟨by rfl, ?_⟩) (by assumption) ?_); rotate_left 1; (focus (intro w hSw; (try dsimp only at hSw); go_simp; (try with_reducible rfl))); (try simp only [Act.put, List.setIfInBounds_toArray, List.set_cons_zero, List.set_cons_succ]); (refine wpAnyH_take (i := 2) (v := ?_) rfl (by kernel_rfl) (by kernel_rfl) (by kernel_rfl) (fun _ _ _ h => h) (Or.inl ⟨by rfl, ?_⟩) (by assumption) ?_); rotate_left 1; (focus (intro w hSw; (try dsimp only at hSw); go_simp; (try with_reducible rfl))); (try simp only [Act.put, List.setIfInBounds_toArray, List.set_cons_zero, List.set_cons_succ])
  have EQ := Lib.hid (((Ext.refl w2).alloc (.cells #[.slice A1 n1 c1, .slice B1 m1 d1] 27)).drew)
  have C3 := Lib.hid (HC.out.ext EQ.out)
  have R3 := Lib.hid (Rd.own (EQ.out.own HD.out.rs))
  have q0 := (show Ext (w2.alloc (.cells #[.slice A1 n1 c1, .slice B1 m1 d1] 27)) _ from (Ext.refl _).drew).cell1 B0.out
  have q1 := (show Ext (w2.alloc (.cells #[.slice A1 n1 c1, .slice B1 m1 d1] 27)) _ from (Ext.refl _).drew).cell1 B1'.out
  have Q0 := Lib.hid q0
  have Q1 := Lib.hid q1
  clear b0 b1 q0 q1
  refine wpAnyH_ready (rs := [3]) (by kernel_rfl) (by simp) ?_
  refine AllReadyH.cons rfl (fun K hK => ?_) AllReadyH.nil
  go_simp
  (try simp only [Act.put, List.setIfInBounds_toArray, List.set_cons_zero, List.set_cons_succ])
  go_wp2_with (go_at_call 49; refine (kind_any (w.heap.size + 1) _ A1 n1 c1 B1 m1 d1 ss _ C3.out (by omega) R3.out OFF.out hn HS.out).mono ?_; rintro e w4 ⟨v, rfl, ⟨Kk, l4, e4, ks, rfl, hl7, ok4⟩, C4, G4⟩)
  have P0 := Lib.hid (cell_keep G4 (by omega : w2.heap.size ≠ w.heap.size + 1) Q0.out)
  have P1 := Lib.hid (cell_keep G4 (by omega : w2.heap.size ≠ w.heap.size + 1) Q1.out)
  have OZ4 := Lib.hid ((EQ.out.own OZ2.out).kept G4 nz)
  have HD4 := Lib.hid ((HD.out.ext EQ.out).drawn G4 (by omega))
  have OK4 := Lib.hid (own_low' ok4 (show w.heap.size + 1 + 1 ≤ _ by simp only [World.size_drew, World.size_alloc]; omega))
  have GA := Lib.hid (grown_trans HG.out (grown_trans (grown_of_ext (g := some (w.heap.size + 1)) EQ.out) G4))
  clear G4 C4 ok4 C3 R3 HC HG HD Q0 Q1
  refine hK.out _ _ ⟨P0.out, P1.out⟩ (fun hHeld => ?_)
  clear hK K
  (try simp only [Act.put, List.setIfInBounds_toArray, List.set_cons_zero, List.set_cons_succ])
  obtain ⟨s0, s1, sg⟩ := tab_stored OZ4.out (.slice A1 n1 c1) (.slice B1 m1 d1)
  have P2 := Lib.hid (cell_keep sg (by omega : w2.heap.size ≠ w.heap.size) P0.out)
  have P3 := Lib.hid (cell_keep sg (by omega : w2.heap.size ≠ w.heap.size) P1.out)
  refine wpAnyH_ready (rs := [4]) (by kernel_rfl) (by simp) ?_
  refine AllReadyH.cons rfl (fun K hK => ?_) AllReadyH.nil
  refine step_store rfl 27 (.tmp 2) (.tmp 11) rfl w.heap.size 0 [.slice A1 n1 c1, .slice B1 m1 d1] rfl rfl (own_there OZ4.out 0 2 (by simp)) sizeTab rfl rfl ?_
  (try simp only [Act.put, List.setIfInBounds_toArray, List.set_cons_zero, List.set_cons_succ])
  refine hK.out _ _ ⟨P2.out, P3.out⟩ (fun hHeld => ?_)
  clear hK K
  (try simp only [Act.put, List.setIfInBounds_toArray, List.set_cons_zero, List.set_cons_succ])
  (refine wpAnyH_take (i := 5) (v := ?_) rfl (by kernel_rfl) (by kernel_rfl) (by kernel_rfl) (fun _ _ _ h => h) (Or.inl ⟨by rfl, ?_⟩) (by assumption) ?_); rotate_left 1; (focus (intro w hSw; (try dsimp only at hSw); go_simp; (try with_reducible rfl))); (try simp only [Act.put, List.setIfInBounds_toArray, List.set_cons_zero, List.set_cons_succ])
  refine wpAnyH_done (by kernel_rfl) ?_ _
  have HD9 := Lib.hid (HD4.out.past OZ4.out sg)
  have OK9 := Lib.hid (OK4.out.kept sg (own_types OK4.out OZ4.out (fun e => tabInt e.symm)))
  have EF := Lib.hid ((E0.trans (ext_of_cur (w := w.alloc (.cells #[.slice none 0 0, .slice none 0 0] 27)) (by rw [World.size_alloc]; exact GA.out))).row sg (Nat.le_refl _))
  (try simp only [List.getElem_toArray, List.getElem_cons_succ, List.getElem_cons_zero, List.setIfInBounds_toArray, List.set_cons_succ, List.set_cons_zero])
  go_wp2
  exact bodyPost_ret (v := .tuple #[.agg #[.slice A1 n1 c1, .slice B1 m1 d1], .slice Kk l4 e4]) (by simp [results, Tryd.results29, go_sem, s0, s1]) rfl ⟨⟨A1, n1, c1, B1, m1, d1, ss, bs, Kk, l4, e4, ks, rfl, HD9.out.low (by omega), hl7, own_low' OK9.out (by omega)⟩, EF.out⟩
set_option maxRecDepth 100000 in
set_option maxHeartbeats 4000000 in
theorem DrawNextKind_any (A : Option Addr) (n c : Nat) (l : List Int) (w : World) (h : CodeOk w A n l) :
    Calls Tryd.prog 15 #[.slice A n c] w fun e w' => DrawnTK w.heap.size e w' ∧ Ext w w' := by
  have OZ := Lib.hid (own_block w 27 [.slice none 0 0, .slice none 0 0])
  have E0 := (Ext.refl w).alloc (.cells #[.slice none 0 0, .slice none 0 0] 27)
  have K := Lib.hid (h.ext E0)
  go_enter Tryd.func15, Tryd.ntmps15
  go_wp2_with fail
  refine (DrawIsCompatible_any A n c l _ K.out).mono ?_
  rintro e w1 ⟨⟨A1, n1, c1, B1, m1, d1, ss, bs, Kk, l4, e4, ks, rfl, hd, hl7, hk⟩, e1⟩
  have OZ5 := Lib.hid (e1.own OZ.out)
  have HD := Lib.hid (hd.low (show w.heap.size ≤ _ by simp))
  have HK := Lib.hid (own_low' hk (show w.heap.size ≤ _ by simp))
  clear hd hk
  go_wp2_with (refine wpList_store_own rfl 27 _ _ rfl w.heap.size 0 [.slice A1 n1 c1, .slice B1 m1 d1] rfl rfl w.heap.size 27 2 1 1 _ OZ5.out (by simp) sizeTab rfl ?_; intro w9 ho9 hg9)
  have r0 := own_at ho9 (j := 0) rfl
  have r1 := own_at ho9 (j := 1) rfl
  have EF := Lib.hid ((E0.trans e1).row hg9 (Nat.le_refl _))
  exact bodyPost_ret (v := .tuple #[.agg #[.slice A1 n1 c1, .slice B1 m1 d1], .slice Kk l4 e4]) (by simp [results, Tryd.results15, go_sem, r0, r1]) rfl ⟨⟨A1, n1, c1, B1, m1, d1, ss, bs, Kk, l4, e4, ks, rfl, DrawnT.past HD.out OZ5.out hg9, hl7, HK.out.kept hg9 (own_types HK.out OZ5.out (fun e => tabInt e.symm))⟩, EF.out⟩
set_option maxRecDepth 100000 in
set_option maxHeartbeats 4000000 in
theorem DrawCountCompatible_any (A : Option Addr) (n c : Nat) (l : List Int) (w : World) (h : CodeOk w A n l) :
    Calls Tryd.prog 5 #[.slice A n c] w fun e w' => ∃ A1 n1 c1 B1 m1 d1 ss bs, e = .returned (.agg #[.slice A1 n1 c1, .slice B1 m1 d1]) ∧ DrawnT w.heap.size A1 n1 c1 B1 m1 d1 ss bs w' ∧ Ext w w' := by
  have OZ := Lib.hid (own_block w 27 [.slice none 0 0, .slice none 0 0])
  have E0 := (Ext.refl w).alloc (.cells #[.slice none 0 0, .slice none 0 0] 27)
  have K := Lib.hid (h.ext E0)
  go_enter Tryd.func5, Tryd.ntmps5
  go_wp2_with fail
  refine (DrawIsKindTable_any A n c l _ K.out).mono ?_
  rintro e w1 ⟨A1, n1, c1, B1, m1, d1, ss, bs, rfl, hd, e1⟩
  have OZ5 := Lib.hid (e1.own OZ.out)
  have HD := Lib.hid (hd.low (show w.heap.size ≤ _ by simp))
  clear hd
  go_wp2_with (refine wpList_store_own rfl 27 (.tmp 2) (.tmp 4) rfl w.heap.size 0 [.slice A1 n1 c1, .slice B1 m1 d1] rfl rfl w.heap.size 27 2 1 1 _ OZ5.out (by simp) sizeTab rfl ?_; intro w9 ho9 hg9)
  have r0 := own_at ho9 (j := 0) rfl
  have r1 := own_at ho9 (j := 1) rfl
  have EF := Lib.hid ((E0.trans e1).row hg9 (Nat.le_refl _))
  exact bodyPost_ret (v := .agg #[.slice A1 n1 c1, .slice B1 m1 d1]) (by simp [results, Tryd.results5, go_sem, r0, r1]) rfl ⟨A1, n1, c1, B1, m1, d1, ss, bs, rfl, DrawnT.past HD.out OZ5.out hg9, EF.out⟩
end Go.Proofs.YtekggbmpogmlcaaDoor

namespace Go.Proofs.YtekggbmpogmlcaaDoor
open Go.RowKit
set_option linter.unusedVariables false
set_option linter.unusedSimpArgs false
attribute [local go_sem] ExtOf.cell

theorem KAt.len {ss : List Int} {bs : List Ban} {i count : Nat} (_ : KAt ss bs i count) : (kindAt ss i).length = ss.length := kindAt_len ss i
set_option maxRecDepth 100000 in
set_option maxHeartbeats 8000000 in
theorem FnKinds_any (A : Option Addr) (n c : Nat) (l : List Int) (w : World) (h : CodeOk w A n l) (ht : TabOkW w) :
    Calls Tryd.prog 3 #[.slice A n c] w fun e w' => e = .returned (.bool true) ∧ Ext w w' := by
  have HC := Lib.hid h
  have HT := Lib.hid ht
  have hsm := h.small
  clear h ht
  by_cases hbig : 65536 < (n : Int)
  · have hd : decide (65536 < (n : Int)) = true := by simpa using hbig
    go_enter Tryd.func3, Tryd.ntmps3
    go_wp2_with (go_at_call 4; refine (vBig_any A n c w hsm).mono ?_; rintro e w' ⟨rfl, rfl⟩)
    go_ret
    exact ⟨rfl, Ext.refl _⟩
  have hd : decide (65536 < (n : Int)) = false := by simpa using hbig
  clear hbig
  go_enter Tryd.func3, Tryd.ntmps3
  go_wp2_with fail
  refine (vBig_any A n c w hsm).mono ?_
  rintro e w' ⟨rfl, rfl⟩
  go_wp2_with fail
  refine (DrawCountCompatible_any A n c l _ HC.out).mono ?_
  rintro e w1 ⟨A1, n1, c1, B1, m1, d1, ss, bs, rfl, hT, e1⟩
  have BX := Lib.hid (own_block w1 27 [.slice A1 n1 c1, .slice B1 m1 d1])
  have EB := Lib.hid ((Ext.refl w1).alloc (.cells #[.slice A1 n1 c1, .slice B1 m1 d1] 27))
  have HTab := Lib.hid (fun (W : World) (he : Ext w1 W) => (hT.ext he).tab)
  have HLen := Lib.hid (show ss.length ≤ 6 by have := hT.tab.sl; have := hT.hn; omega)
  have E1 := Lib.hid e1
  clear hT e1
  go_wp2_with fail
  refine (CountCompatibleI_any A1 n1 c1 B1 m1 d1 ss bs _ (HTab.out _ EB.out)).mono ?_
  rintro e w2 ⟨rfl, e2⟩
  have u0 := own_at (e2.own BX.out) (j := 0) rfl
  have u1 := own_at (e2.own BX.out) (j := 1) rfl
  have zu : w1.heap.size < w2.heap.size := World.block_lt_of_cell? w2 _ u0
  go_wp2_with fail
  refine (CountCompatibleS_any A1 n1 c1 B1 m1 d1 ss bs _ (HTab.out _ (EB.out.trans e2))).mono ?_
  rintro e w3 ⟨rfl, e3⟩
  clear u0 u1 zu
  have E3 := Lib.hid (e2.trans e3)
  clear e2 e3
  have u0 := own_at (E3.out.own BX.out) (j := 0) rfl
  have u1 := own_at (E3.out.own BX.out) (j := 1) rfl
  have zu : w1.heap.size < w3.heap.size := World.block_lt_of_cell? w3 _ u0
  have CI := Lib.hid (fun (wx : World) (hx : Ext w3 wx) => IsKindTableI_any A1 n1 c1 B1 m1 d1 ss bs wx (HTab.out _ (EB.out.trans (E3.out.trans hx))))
  have CS := Lib.hid (fun (wx : World) (hx : Ext w3 wx) => IsKindTableS_any A1 n1 c1 B1 m1 d1 ss bs wx (HTab.out _ (EB.out.trans (E3.out.trans hx))))
  have HFirst := Lib.hid (first_at (ss := ss) (bs := bs))
  obtain ⟨tb, htb⟩ : ∃ tb : Bool, tb = decide (0 < countR ss bs) := ⟨_, rfl⟩
  have HSome := Lib.hid (show (firstK ss bs).isSome = tb by
    rw [htb]
    rcases HFirst.out with ⟨h1, h2⟩ | ⟨i, _, h1, _, h2⟩
    · rw [h1, h2]; rfl
    · rw [h1]; simp [h2])
  obtain ⟨hc0, hc1⟩ := countR_bd (ss := ss) (bs := bs)
  generalize hcn : countR ss bs = cn at *
  have HCN := Lib.hid hcn
  clear hcn
  have HTB := Lib.hid htb
  have htq : decide (0 < cn) = tb := htb.symm
  clear htb
  generalize hok : TabOk ss bs = ok at *
  have HOK := Lib.hid hok
  clear hok
  go_wp2
  (refine wp_region_ext_lit (by kernel_rfl) (by kernel_rfl) ?_; (repeat (go_big_quiet_step ((first | (go_at_call 8; exact ext_call (CI.out _ (ExtOf.ext _))) | (go_at_call 9; exact ext_call (CS.out _ (ExtOf.ext _))))))); refine wpQuiet_nil ?_; rintro wq ⟨⟨_, heq⟩, rfl⟩; (try dsimp only))
  have E4 := Lib.hid (E3.out.trans heq)
  clear heq u0 u1 zu CI CS E3
  have u0 := own_at (E4.out.own BX.out) (j := 0) rfl
  have u1 := own_at (E4.out.own BX.out) (j := 1) rfl
  have zu : w1.heap.size < wq.heap.size := World.block_lt_of_cell? wq _ u0
  go_wp2_with fail
  refine (FirstKindI_any A1 n1 c1 B1 m1 d1 ss bs _ (HTab.out _ (EB.out.trans E4.out))).mono ?_
  rintro e w5 ⟨A2, m2, c2, rfl, o2, e5⟩
  clear u0 u1 zu
  have u0 := own_at ((E4.out.trans e5).own BX.out) (j := 0) rfl
  have u1 := own_at ((E4.out.trans e5).own BX.out) (j := 1) rfl
  have zu : w1.heap.size < w5.heap.size := World.block_lt_of_cell? w5 _ u0
  go_wp2_with fail
  refine (FirstKindS_any A1 n1 c1 B1 m1 d1 ss bs _ (HTab.out _ (EB.out.trans (E4.out.trans e5)))).mono ?_
  rintro e w6 ⟨A3, m3, c3, rfl, o3, e6⟩
  clear u0 u1 zu
  rw [HSome.out]
  have hl2 : ((firstK ss bs).getD []).length = m2 := by have := o2.1; rw [ints_length] at this; omega
  have hl3 : m3 = m2 := by have := o3.1; rw [ints_length] at this; omega
  subst hl3
  have hm20 : m3 ≤ 10000 := by rw [← hl2]; exact firstK_len ss bs
  have O2 := Lib.hid (own_low' (e6.own o2) (Nat.le_trans EB.out.size E4.out.size))
  have R2 := Lib.hid (Rd.own (e6.own o2))
  have R3 := Lib.hid (Rd.own o3)
  have E6 := Lib.hid (E4.out.trans (e5.trans e6))
  clear o2 o3 e5 e6 E4 hl2
  go_wp2_with fail
  refine (vInts_same A2 A3 m3 c2 c3 _ _ (by omega) R2.out R3.out).mono ?_
  rintro e w7 ⟨rfl, e7⟩
  have O7 := Lib.hid (e7.own O2.out)
  have E7 := Lib.hid (E6.out.trans e7)
  clear O2 R2 R3 E6 e7
  obtain ⟨w7, rfl⟩ : ∃ wq : World, wq = w7 := ⟨_, rfl⟩
  go_upto_block 0 with fail
  go_cut [8, 12, 13, 14, 15, 16] (fun s1 s2 s3 s4 s5 s6 W => Ext w7 W)
  case first =>
    clear htq
    cases tb
    · clear HTB
      go_wp2_with fail
      go_loopw [12] (fun i wr => i = .int .i64 1 ∧ Ext w7 wr) (fun i _ => 1)
      case atStart => exact ⟨rfl, Ext.refl _⟩
      case round =>
        obtain ⟨rfl, he⟩ := hrel
        go_wp2
        go_meet
        exact he
    · have z2 : 0 < cn := by have := HTB.out; simpa using this.symm
      clear HTB
      have HL := Lib.hid (show (∃ i, TabOk ss bs = true ∧ (firstK ss bs).getD [] = kindAt ss i ∧ KAt ss bs i 1) from by
        rcases HFirst.out with ⟨_, h2⟩ | ⟨i, h0, h1, h2, _⟩
        · omega
        · exact ⟨i, HOK.out.trans h0, by rw [h1]; rfl, h2⟩)
      obtain ⟨i0, hT0, hk0, ha0⟩ := HL.out
      have HT0 := Lib.hid hT0
      have O8 := Lib.hid O7.out
      rw [hk0] at O8
      have HA0 := Lib.hid ha0
      clear hT0 hk0 ha0 HL HFirst
      go_wp2_with fail
      go_loopw [8, 12] (fun q i wr => ∃ (cnt m cc : Nat) (K : Option Addr) (ks : List Int), q = .slice K m cc ∧ i = .int .i64 cnt ∧ cnt ≤ 41 ∧ wr.ownsRow w1.heap.size 3 1 (.slice K m cc) m (ints ks) ∧ Hid ((∃ i, ks = kindAt ss i ∧ KAt ss bs i cnt) ∨ cn < cnt) ∧ Ext w7 wr) (fun _ i _ => 50 - (intOf i).toNat)
      case atStart => exact ⟨1, m3, c2, A2, _, rfl, rfl, by omega, O8.out, .inl ⟨i0, rfl, HA0.out⟩, Ext.refl _⟩
      case round =>
        obtain ⟨cnt, m, cc, K, ks, rfl, rfl, hcnt, ho, hks, he⟩ := hrel
        have HO := Lib.hid ho
        clear ho O7 O8 HA0
        by_cases h40 : cnt ≤ 40
        · have d40 : decide ((cnt : Int) ≤ 40) = true := by simp; omega
          by_cases hcc : (cnt : Int) ≤ cn
          · have dcc : decide ((cnt : Int) ≤ cn) = true := by simpa using hcc
            have HK := Lib.hid (show ∃ i, ks = kindAt ss i ∧ KAt ss bs i cnt from by
              rcases hks.out with h9 | h9
              · exact h9
              · omega)
            obtain ⟨i, hki, hat⟩ := HK.out
            have hkl : ks.length = ss.length := by rw [hki]; exact hat.len
            have hkm : ks.length = m := by have := HO.out.1; rw [ints_length] at this; omega
            have hm9 : m ≤ 1048576 := by have := HLen.out; omega
            have HN := Lib.hid (next_at HT0.out hat)
            rw [← hki] at HN
            have HKM := Lib.hid hkm
            clear hki hat HK hks hkl hkm
            have HCP := Lib.hid HN.out.1
            have HCQ := Lib.hid HN.out.2.1
            have HNS := Lib.hid (show (nextK ss bs ks).isSome = decide ((cnt : Int) < cn) from by
              rcases HN.out.2.2 with ⟨h1, h2⟩ | ⟨j, h1, _, h2⟩
              · rw [h1]; have h3 := h2.trans HCN.out; simp; omega
              · rw [h1]; rw [HCN.out] at h2; simp [h2])
            have HNX := Lib.hid (show (∃ i, (nextK ss bs ks).getD [] = kindAt ss i ∧ KAt ss bs i (cnt + 1)) ∨ cn < ((cnt + 1 : Nat) : Int) from by
              rcases HN.out.2.2 with ⟨h1, h2⟩ | ⟨j, h1, h3, _⟩
              · right; have h3 := h2.trans HCN.out; omega
              · left; exact ⟨j, by rw [h1]; rfl, h3⟩)
            clear HN
            have u0 := own_at ((E7.out.trans he).own BX.out) (j := 0) rfl
            have u1 := own_at ((E7.out.trans he).own BX.out) (j := 1) rfl
            have zu : w1.heap.size < wr.heap.size := World.block_lt_of_cell? wr _ u0
            go_wp2_with fail
            refine (IsCompatibleI_any A1 n1 c1 B1 m1 d1 ss bs K m cc ks _ (HTab.out _ (EB.out.trans (E7.out.trans he))) HKM.out hm9 (Rd.own HO.out)).mono ?_
            rintro e w8 ⟨rfl, e8⟩
            rw [HCP.out, HCQ.out]
            clear u0 u1 zu
            have u0 := own_at ((E7.out.trans (he.trans e8)).own BX.out) (j := 0) rfl
            have u1 := own_at ((E7.out.trans (he.trans e8)).own BX.out) (j := 1) rfl
            have zu : w1.heap.size < w8.heap.size := World.block_lt_of_cell? w8 _ u0
            go_wp2_with fail
            refine (NextKindI_any A1 n1 c1 B1 m1 d1 ss bs K m cc ks _ (HTab.out _ (EB.out.trans (E7.out.trans (he.trans e8)))) HKM.out hm9 (Rd.own (e8.own HO.out))).mono ?_
            rintro e w9 ⟨A4, m4, c4, rfl, o4, e9⟩
            rw [HNS.out]
            have O4 := Lib.hid (own_low' o4 (show w1.heap.size ≤ w8.heap.size by omega))
            have E9 := Lib.hid (he.trans (e8.trans e9))
            clear u0 u1 zu o4 e8 e9
            go_wp2
            go_roundw
            case rel => exact ⟨cnt + 1, m4, c4, A4, _, rfl, by go_num, by omega, O4.out, HNX.out, E9.out⟩
            case measure => simp [intOf]; omega
          · have dcc : decide ((cnt : Int) ≤ cn) = false := by simpa using hcc
            go_wp2
            go_meet
            exact he
        · have d40 : decide ((cnt : Int) ≤ 40) = false := by simp; omega
          go_wp2
          go_meet
          exact he
  case rest =>
    have E9 := Lib.hid (E1.out.trans (EB.out.trans (E7.out.trans hcut)))
    clear E7 EB BX HTab HOK HCN HSome HFirst HTB htq hcut O7 HLen hc0 hc1
    go_wp2_with fail
    refine (DrawNextKind_any A n c l _ (HC.out.ext E9.out)).mono ?_
    rintro e w1 ⟨⟨A1, n1, c1, B1, m1, d1, ss, bs, K, lk, ek, ks, rfl, hT, hl7, ok⟩, e1⟩
    have BX := Lib.hid (own_block w1 27 [.slice A1 n1 c1, .slice B1 m1 d1])
    have EB := Lib.hid ((Ext.refl w1).alloc (.cells #[.slice A1 n1 c1, .slice B1 m1 d1] 27))
    have HTab := Lib.hid (fun (W : World) (he : Ext w1 W) => (hT.ext he).tab)
    have HKR := Lib.hid (Rd.own ok)
    have HKL := Lib.hid (show ks.length = lk by have := ok.1; rw [ints_length] at this; omega)
    have hl9 : lk ≤ 1048576 := by omega
    have E1 := Lib.hid (E9.out.trans e1)
    have HTW := Lib.hid (HT.out.ext E1.out)
    clear hT ok e1 E9 hl7
    go_wp2_with fail
    refine (NextKindI_any A1 n1 c1 B1 m1 d1 ss bs K lk ek ks _ (HTab.out _ EB.out) HKL.out hl9 (HKR.out.ext EB.out)).mono ?_
    rintro e w2 ⟨A2, m2, c2, rfl, o2, e2⟩
    have u0 := own_at (e2.own BX.out) (j := 0) rfl
    have u1 := own_at (e2.own BX.out) (j := 1) rfl
    have zu : w1.heap.size < w2.heap.size := World.block_lt_of_cell? w2 _ u0
    go_wp2_with fail
    refine (NextKindS_any A1 n1 c1 B1 m1 d1 ss bs K lk ek ks _ (HTab.out _ (EB.out.trans e2)) HKL.out hl9 (HKR.out.ext (EB.out.trans e2))).mono ?_
    rintro e w3 ⟨A3, m3, c3, rfl, o3, e3⟩
    clear u0 u1 zu
    have hl2 : ((nextK ss bs ks).getD []).length = m2 := by have := o2.1; rw [ints_length] at this; omega
    have hl3 : m3 = m2 := by have := o3.1; rw [ints_length] at this; omega
    subst hl3
    have hm20 : m3 ≤ 10000 := by rw [← hl2]; exact nextK_len ss bs ks
    have R2 := Lib.hid (Rd.own (e3.own o2))
    have R3 := Lib.hid (Rd.own o3)
    have E3 := Lib.hid (e2.trans e3)
    clear o2 o3 e2 e3 hl2
    generalize (nextK ss bs ks).isSome = ns at *
    go_wp2_with fail
    refine (vInts_same A2 A3 m3 c2 c3 _ _ (by omega) R2.out R3.out).mono ?_
    rintro e w4 ⟨rfl, e4⟩
    have E4 := Lib.hid (E3.out.trans e4)
    clear R2 R3 E3 e4
    have u0 := own_at (E4.out.own BX.out) (j := 0) rfl
    have u1 := own_at (E4.out.own BX.out) (j := 1) rfl
    have zu : w1.heap.size < w4.heap.size := World.block_lt_of_cell? w4 _ u0
    go_wp2_with fail
    refine (IsCompatibleI_any A1 n1 c1 B1 m1 d1 ss bs K lk ek ks _ (HTab.out _ (EB.out.trans E4.out)) HKL.out hl9 (HKR.out.ext (EB.out.trans E4.out))).mono ?_
    rintro e w5 ⟨rfl, e5⟩
    clear u0 u1 zu
    have E5 := Lib.hid (E4.out.trans e5)
    clear E4 e5
    have u0 := own_at (E5.out.own BX.out) (j := 0) rfl
    have u1 := own_at (E5.out.own BX.out) (j := 1) rfl
    have zu : w1.heap.size < w5.heap.size := World.block_lt_of_cell? w5 _ u0
    go_wp2_with fail
    refine (IsCompatibleS_any A1 n1 c1 B1 m1 d1 ss bs K lk ek ks _ (HTab.out _ (EB.out.trans E5.out)) HKL.out hl9 (HKR.out.ext (EB.out.trans E5.out))).mono ?_
    rintro e w6 ⟨rfl, e6⟩
    clear u0 u1 zu
    have E6 := Lib.hid (E5.out.trans e6)
    clear E5 e6
    have TI := Lib.hid (fun (wx : World) (hx : Ext w1 wx) => KindTextI_any A1 n1 c1 B1 m1 d1 ss bs K lk ek ks wx (HTab.out _ hx) HKL.out hl9 (HKR.out.ext hx) (HTW.out.ext hx))
    have TS := Lib.hid (fun (wx : World) (hx : Ext w1 wx) => KindTextS_any A1 n1 c1 B1 m1 d1 ss bs K lk ek ks wx (HTab.out _ hx) HKL.out hl9 (HKR.out.ext hx))
    rw [ktP_comp] at TI TS
    generalize ktT ss bs ks = tx at *
    generalize compQ ss bs ks = cq at *
    generalize compP ss bs ks = cp at *
    have u0 := own_at (E6.out.own BX.out) (j := 0) rfl
    have u1 := own_at (E6.out.own BX.out) (j := 1) rfl
    have zu : w1.heap.size < w6.heap.size := World.block_lt_of_cell? w6 _ u0
    go_wp2_with fail
    refine (TI.out _ (EB.out.trans E6.out)).mono ?_
    rintro e w7 ⟨rfl, e7⟩
    clear u0 u1 zu
    have E7 := Lib.hid (E6.out.trans e7)
    clear E6 e7
    have u0 := own_at (E7.out.own BX.out) (j := 0) rfl
    have u1 := own_at (E7.out.own BX.out) (j := 1) rfl
    have zu : w1.heap.size < w7.heap.size := World.block_lt_of_cell? w7 _ u0
    go_wp2_with fail
    refine (TS.out _ (EB.out.trans E7.out)).mono ?_
    rintro e w8 ⟨rfl, e8⟩
    have EZ := Lib.hid (E1.out.trans (EB.out.trans (E7.out.trans e8)))
    go_wp2
    go_ret
    exact ⟨rfl, EZ.out⟩
end Go.Proofs.YtekggbmpogmlcaaDoor

namespace Go.Proofs.YtekggbmpogmlcaaDoor.fnKinds
open Go.ChangeShapes Go.WideShapes Go.ChangeAt Go.RowKit
open Go.ChangeMaps (open_string shut_string)
set_option linter.unusedVariables false
set_option linter.unusedSimpArgs false
theorem own : ownKnob Tryd.prog.godebug = none := by kernel_rfl
theorem laidOut : laidOutB Tryd.prog = true := by kernel_rfl
theorem gPow0 : Tryd.prog.globalNamed "internal/strconv.uint64pow10" = some 0 := by kernel_rfl
theorem gPowType : (Tryd.prog.globals[0]?).map (·.type) = some 105 := by kernel_rfl
theorem cellsA : Tryd.prog.cellsOf 105 = 20 := by kernel_rfl
theorem cellsU : Tryd.prog.cellsOf 55 = 1 := by kernel_rfl
theorem table {W : World} (h : laidMetH Tryd.prog Rows.fnKindsRow.laid W) : TabOkW W :=
  Lib.tabIs_of_head (rest := []) gPow0 gPowType Tryd.underlying105 Tryd.underlying55 cellsU cellsA (laidMetH.filter (fun x => x.1 == "internal/strconv.uint64pow10") h)
set_option maxRecDepth 100000 in
theorem contract (H : Type) (enc : TypeId × Value → H) (W : World) (base : Nat) (args : Array Value) (ds gs : List (DataW H)) (before : List MemPlace)
    (hval0 : ∀ (j : Nat) t v, Tryd.f3.params[j]? = some t → args[j]? = some v → Value.okWide Tryd.prog W .any base t v)
    (hW : DataW.Whole enc Tryd.prog Tryd.f3.params.toList Rows.fnKindsSpec.vars false W args.toList ds gs before) (hL : laidMetH Tryd.prog Rows.fnKindsRow.laid W) :
    Calls Tryd.prog 3 args W fun e W' => ∃ v, e = .returned v ∧ Rows.fnKindsSpec.post enc Tryd.prog Tryd.f3 false true false false W args v W' := by
  have hT := table hL
  have hval : ∀ (j : Nat) t v, Tryd.f3.params[j]? = some t → args[j]? = some v → Value.okWide Tryd.prog W .any base t v := hval0
  have hW' := hW
  obtain ⟨p, q, hA0, hV, rfl, hfz, hnd⟩ := hW
  have hA : DataW.TrodAll enc Tryd.prog W 0 (fun _ => true) true Tryd.f3.params.toList args.toList ds p := hA0
  rw [Tryd.params3] at hA hval
  obtain ⟨v0, vs0, d0, ds0, p0, q0, hargs, rfl, rfl, h0, r0⟩ := trodAll_cons hA
  obtain ⟨rfl, rfl, rfl⟩ := trodAll_nil r0
  obtain rfl : args = #[v0] := by cases args; simp_all
  obtain ⟨rfl, rfl⟩ := trodVars_none hV
  have lt0 : ∀ x ∈ p0, x.block < W.heap.size := by obtain ⟨m, hm⟩ := h0; exact DataW.trod_lt m _ _ _ hm
  have k0 := h0
  obtain ⟨A0, n0, c0, xs0, e0, hc0, hm0, hl0, w0, rd0⟩ := open_bytes (hval 0 22 v0 rfl rfl) h0
  subst e0
  clear hA0 hval0
  refine (FnKinds_any A0 n0 c0 xs0 W (codeOk hc0 hm0 w0 rd0) hT).mono fun e W' ⟨he, bel⟩ => ?_
  subst he
  replace bel := Ext.below bel
  exact ⟨_, rfl, _, _, _, [], _, [], hW', trodAll_mk1 (shut_bool Tryd.underlying4 _), (trodAll_cons_mk (Below.trod laidOut (by kernel_rfl) (of_decide_eq_true (by kernel_rfl)) k0 bel lt0) trodAll_mk0), rfl, bel.frame _, fun h => by cases h⟩
def leafV : DataW Unit → Value
  | .lit (.int k z) => .int k z
  | _ => undef
def rowV : DataW Unit → List Value
  | .agg l => l.map leafV
  | d => [leafV d]
def tabV : DataW Unit → Array Value
  | .agg l => (l.flatMap rowV).toArray
  | _ => #[]
noncomputable def laidWorld (os : Os) : World :=
  { World.holding Tryd.prog os ⟨#[], #[], []⟩ with heap := ((((World.holding Tryd.prog os ⟨#[], #[], []⟩).heap.modify 2 fun | .cells _ t frozen => .cells (tabV Rows.laid_math_bits_deBruijn32tab) t frozen | o => o).modify 3 fun | .cells _ t frozen => .cells (tabV Rows.laid_math_bits_deBruijn64tab) t frozen | o => o).modify 0 fun | .cells _ t frozen => .cells (tabV Rows.laid_internal_strconv_uint64pow10) t frozen | o => o) }
theorem laid_met (os : Os) : laidMet Tryd.prog Rows.fnKindsRow.laid ((laidWorld os).forCall (fun _ _ => 0) ⟨#[], #[.slice none 0 0], []⟩).memory :=
  laidMet_of_run' 100 (by kernel_rfl) (by kernel_rfl)
theorem reads (os : Os) {H : Type} (enc : TypeId × Value → H) : ∃ places, DataW.whole enc Tryd.prog ((laidWorld os).forCall (fun _ _ => 0) ⟨#[], #[.slice none 0 0], []⟩).memory Tryd.f3.params.toList Rows.fnKindsSpec.vars false (#[.slice none 0 0] : Array Value).toList 8 = some ([.nil], [], places) :=
  ⟨[], by kernel_rfl⟩
set_option maxRecDepth 100000 in
theorem lifted (os : Os) (started : os.Started) (H : Type) (enc : TypeId × Value → H) (F : Stop.Interp) :
    ReturnsInHanded {} Tryd.checked os 3 .any ((OpenSpec.ofChange Rows.fnKindsSpec).preRow enc Tryd.prog Tryd.f3 Rows.fnKindsRow.domain false Rows.fnKindsRow.laid) (((OpenSpec.ofChange Rows.fnKindsSpec).at F).post enc Tryd.prog Tryd.f3 false true false false) := by
  obtain ⟨places, hx⟩ := reads os enc
  refine returnsInHanded_of_row (C := Tryd.checked) (s := OpenSpec.ofChange Rows.fnKindsSpec) own started (by kernel_rfl) Tryd.func3
    (witness_row_at (enc := enc) (C := Tryd.checked) false (laidWorld os) #[.slice none 0 0] rfl (by kernel_rfl) (by kernel_rfl) (by kernel_rfl)
      (OpenSpec.preRow_of_cond 8 hx (by kernel_rfl) (fun k hk => by cases hk) (by kernel_rfl) (laid_met os))) ?_
  intro W base args ds gs before hval hW _ _ _ hL _ _
  exact contract H enc W base args ds gs before hval hW hL
theorem said : Rows.FnKindsSaid :=
  OpenClaim.holds_of_cond 3 Tryd.f3 rfl rfl rfl rfl rfl rfl rfl ⟨rfl, rfl, rfl, rfl, rfl⟩ rfl rfl rfl rfl rfl (by kernel_rfl) Tryd.func3 (by kernel_rfl)
    (of_decide_eq_true (by kernel_rfl)) (by unfold Func.isWrapper; first | (rw [if_pos (by decide +kernel)]; kernel_rfl) | (rw [if_neg (by decide +kernel)]; exact ⟨rfl, rfl⟩))
    (fun os started H enc _ F => by rw [OpenClaim.pre_eq_preRow]; exact lifted os started H enc F)
theorem plain (f : FuncId) (fn : Func) (hf : Tryd.pinned.checked.prog.funcNamed "loop.example/g01062/laws.FnKinds" = some f) (hfn : Tryd.pinned.checked.prog.funcs[f]? = some fn) :
    false = Tryd.pinned.checked.prog.looks [] ∧ ∀ (j : Nat) t, fn.params[j]? = some t → Tryd.pinned.checked.prog.wantsStandIn t = false := by
  obtain rfl : f = 3 := Option.some.inj ((show Tryd.prog.funcNamed "loop.example/g01062/laws.FnKinds" = some 3 by kernel_rfl).symm.trans hf) |>.symm
  obtain rfl : fn = Tryd.f3 := (Option.some.inj (Tryd.func3.symm.trans hfn)).symm
  refine ⟨by kernel_rfl, fun j t ht => ?_⟩
  rw [Tryd.params3] at ht
  have hm := Array.mem_of_getElem? ht
  simp only [List.mem_toArray, List.mem_cons, List.not_mem_nil, or_false] at hm
  subst hm
  exact (show Tryd.prog.wantsStandIn 22 = false by kernel_rfl)
theorem proved : Rows.FnKindsCardSaid :=
  Claim7.holds_tied_plain_at .later [] _ _ _ _ said (fun _ h => by cases h) (by kernel_rfl) (fun _ h => by cases h) fnKinds_row_tie rfl ⟨rfl, rfl⟩ (by kernel_rfl) rfl plain (by kernel_rfl)
#print axioms proved
end Go.Proofs.YtekggbmpogmlcaaDoor.fnKinds

