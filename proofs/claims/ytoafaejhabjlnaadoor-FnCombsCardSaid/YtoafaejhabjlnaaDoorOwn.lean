/- Own rows (made by wip/held.py). -/
import Derived.Test.YtoafaejhabjlnaaDoorApp
namespace Go.Proofs.YtoafaejhabjlnaaDoor
open Go.RowKit
set_option linter.unusedVariables false
set_option linter.unusedSimpArgs false
attribute [local go_sem] ExtOf.cell

theorem own_low' {w : World} {b b' T size n : Nat} {v : Value} {cs : List Value} (h : w.ownsRow b T size v n cs) (hb : b' ≤ b) : w.ownsRow b' T size v n cs := by
  refine ⟨h.1, ?_⟩
  rcases h.2 with h2 | ⟨g, cap, cur, h1, h2, h3⟩
  · exact .inl h2
  · exact .inr ⟨g, cap, cur, h1, Nat.le_trans hb h2, h3⟩
theorem own_block (w : World) (T : TypeId) (cs : List Value) : (w.alloc (.cells cs.toArray T)).ownsRow w.heap.size T cs.length (.slice (some ⟨w.heap.size, 0, none⟩) 1 1) 1 cs :=
  ⟨by simp, .inr ⟨w.heap.size, 1, cs.toArray, rfl, Nat.le_refl _, heap_alloc_new w _, Nat.le_refl _, by unfold maxLen; omega, by simp, by simp⟩⟩
theorem own_at {w : World} {base T size n g c : Nat} {cs : List Value} (h : w.ownsRow base T size (.slice (some ⟨g, 0, none⟩) n c) n cs) {j : Nat} {v : Value} (hj : cs[j]? = some v) : w.cell? ⟨g, j, none⟩ = some v := by
  have hl := (List.getElem?_eq_some_iff.1 hj).1
  rw [h.cellAt j (by have := h.1; omega)]
  exact hj
theorem Ext.cellp {w w' : World} (h : Ext w w') {p : Addr} {u : Value} (hc : w.cell? p = some u) : w'.cell? p = some u :=
  (Below.cell (p := p) h (World.block_lt_of_cell? w _ hc)).trans hc
/-- Two rows of different element types lie in different blocks. -/
theorem own_types {w : World} {b b' T T' s s' n n' : Nat} {v v' : Value} {xs xs' : List Value} (h : w.ownsRow b T s v n xs) (h' : w.ownsRow b' T' s' v' n' xs') (hT : T ≠ T') : v.ownBlock = none ∨ v.ownBlock ≠ v'.ownBlock := by
  rcases h.2 with ⟨h1, _⟩ | ⟨g, cap, cur, h1, _, h3, _⟩
  · left; rw [h1]; rfl
  · rcases h'.2 with ⟨k1, _⟩ | ⟨g', cap', cur', k1, _, k3, _⟩
    · right; rw [h1, k1]; simp [Value.ownBlock]
    · right; rw [h1, k1]; simp only [Value.ownBlock]
      intro e; injection e with e; subst e
      rw [h3] at k3; injection k3 with k3; injection k3 with _ k4 _; exact hT k4
theorem own_prefix {w : World} {base T size n g c i : Nat} {cs : List Value} (h : w.ownsRow base T size (.slice (some ⟨g, 0, none⟩) n c) n cs) (hi : i ≤ n) : w.ownsRow base T size (.slice (some ⟨g, 0, none⟩) i c) i (cs.take (i * size)) := by
  rcases h with ⟨h0, h⟩
  rcases h with ⟨h1, _⟩ | ⟨g', cap, cur, h1, h2, h3, h4, h5, h6, h7⟩
  · cases h1
  · refine ⟨by rw [List.length_take, h0, Nat.min_eq_left (Nat.mul_le_mul_right _ hi)], .inr ⟨g', cap, cur, ?_, h2, h3, by omega, h5, h6, ?_⟩⟩
    · injection h1 with e1 e2 e3; rw [e1, e3]
    · rw [← h7, List.take_take, Nat.min_eq_left (Nat.mul_le_mul_right _ hi)]
theorem step_app_own {P : Program} {ops : Array Oper} {o : Oper} {a : Act} {w : World} {K : Act → World → Prop} {Q : Exit → Act → World → Prop} {E : Prop}
    (hg : o.guard = none) (s x : Operand) (t : TypeId) (hop : o.op = Op.call { callee := Callee.builtin Builtin.append, args := #[s, x], argTypes := #[t, t] })
    (base : Nat) (e : TypeId) (i : TypeInfo) (z : Value) (size bytes : Nat) (ht : P.underlying t = some (.slice e)) (hi : P.info? e = some i) (hz : i.zero = some z)
    (hsize : i.size = size) (hby : i.bytes = bytes) (hzs : z.cells.size = size) (hsz : 0 < size)
    (v : Value) (n : Nat) (xs : List Value) (hs : a.eval s = v) (hown : w.ownsRow base e size v n xs)
    (ad : Addr) (m c : Nat) (news : List Value) (hx : a.eval x = .slice (some ad) m c) (hl : news.length = m * size) (hnews : ∀ j u, news[j]? = some u → w.cell? (ad.add j) = some u) (h1 : ∀ u ∈ news, u.oneCell' = true)
    (h63 : n + m ≤ maxLen) (hbytes : (n + m) * bytes ≤ 140737488355328) (hbase : base ≤ w.heap.size) (k : Nat) (hd : o.dst = some k)
    (N : Nat) (hN : n + m = N) (R : List Value) (hR : xs ++ news = R)
    (h : ∀ A' c' w', w'.ownsRow base e size (.slice A' N c') N R → w.grownBy w' v.ownBlock → K (a.put (some k) (.slice A' N c')) w') :
    if Region.wanted o (yielded ops a.tmps) = true then Oper.wp P o a w K Q else E := by
  have hw : Region.wanted o (yielded ops a.tmps) = true := by simp [Region.wanted, hg]
  rw [if_pos hw]
  refine wp_append_own w s x t hop base e i z size bytes ht hi hz hsize hby hzs hsz v n xs hs hown ad m c news hx hl hnews h1 h63 hbytes hbase (fun v' w' h1 h2 _ => ?_)
  rw [hN, hR] at h1
  obtain ⟨A', c', rfl⟩ := own_slice h1
  rw [hd]
  exact h A' c' w' h1 h2
theorem ext_of_none {W W' : World} (hg : W.grownBy W' none) : Ext W W' := ⟨hg.os, hg.tape, hg.output, hg.size, fun k hk => hg.block k hk (by simp)⟩
end Go.Proofs.YtoafaejhabjlnaaDoor
