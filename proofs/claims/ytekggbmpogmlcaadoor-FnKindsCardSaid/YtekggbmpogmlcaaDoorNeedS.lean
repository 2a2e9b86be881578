/- NeedlessBans: the reference's entry (made by wip/needs.py). -/
import Derived.Test.YtekggbmpogmlcaaDoorNeed
namespace Go.Proofs.YtekggbmpogmlcaaDoor
open Go.RowKit
set_option linter.unusedVariables false
set_option linter.unusedSimpArgs false
attribute [local go_sem] ExtOf.cell

theorem NSt.grow {w W W' : World} {u0 u1 : Value} {O : Option Addr} {p pc : Nat} {L : List Int} (h : NSt w u0 u1 O p pc L W) {v : Value} {T s q : Nat} {cs : List Value} (hg : W.grownBy W' v.ownBlock) (ho : W.ownsRow (w.heap.size + 1) T s v q cs) (hT : (3 : Nat) ≠ T) : NSt w u0 u1 O p pc L W' := by
  obtain ⟨X, xc, rfl⟩ := own_slice ho
  exact ⟨h.box.grow ho hg, h.out.kept hg (own_types h.out ho hT)⟩
theorem step_app_own {P : Program} {ops : Array Oper} {o : Oper} {a : Act} {w : World} {K : Act → World → Prop} {Q : Exit → Act → World → Prop} {E : Prop}
    (hg : o.guard = none) (s x : Operand) (t : TypeId) (hop : o.op = Op.call { callee := Callee.builtin Builtin.append, args := #[s, x], argTypes := #[t, t] })
    (base : Nat) (e : TypeId) (i : TypeInfo) (z : Value) (size bytes : Nat) (ht : P.underlying t = some (.slice e)) (hi : P.info? e = some i) (hz : i.zero = some z)
    (hsize : i.size = size) (hby : i.bytes = bytes) (hzs : z.cells.size = size) (hsz : 0 < size)
    (v : Value) (n : Nat) (xs : List Value) (hs : a.eval s = v) (hown : w.ownsRow base e size v n xs)
    (ad : Addr) (m c : Nat) (news : List Value) (hx : a.eval x = .slice (some ad) m c) (hl : news.length = m * size) (hnews : ∀ j u, news[j]? = some u → w.cell? (ad.add j) = some u) (h1 : ∀ u ∈ news, u.oneCell' = true)
    (h63 : n + m ≤ maxLen) (hbytes : (n + m) * bytes ≤ 140737488355328) (hbase : base ≤ w.heap.size) (k : Nat) (hd : o.dst = some k)
    (N : Nat) (hN : n + m = N) (R : List Value) (hR : xs ++ news = R)
    (h : ∀ A' c' w', w'.ownsRow base e size (.slice A' N c') N R → w.grownBy w' v.ownBlock → K (a.put (some k) (.slice A' N c')) w') :
    if Region.wanted o (yielded ops a.tmps) = true then Oper.wp P o a w K Q else E := by
  have hw : Region.wanted o (yielded ops a.tmps) = true := by simp [Region.wanted, hg]
  rw [if_pos hw]
  refine wp_append_own w s x t hop base e i z size bytes ht hi hz hsize hby hzs hsz v n xs hs hown ad m c news hx hl hnews h1 h63 hbytes hbase (fun v' w' h1 h2 _ => ?_)
  rw [hN, hR] at h1
  obtain ⟨A', c', rfl⟩ := own_slice h1
  rw [hd]
  exact h A' c' w' h1 h2
end Go.Proofs.YtekggbmpogmlcaaDoor
