/- Certain hues. -/
import Derived.Test.YtekfccfghmggmaaShadeG
import Derived.Test.YtekfccfghmggmaaPlain2
namespace Go.Proofs.Ytekfccfghmggmaa
open Go.RowKit
set_option linter.unusedVariables false
set_option linter.unusedSimpArgs false
attribute [local go_sem] ExtOf.cell

def named (nm : ByteArray) (x : Shade) : Bool := x.Name.toList == nm.toList
def sureP (nm : ByteArray) (hue light : Int) (x : Shade) : Bool := takes hue light x == named nm x
def sureAt (xs : List Shade) (nm : ByteArray) (light : Int) (h : Nat) : Bool := xs.all (sureP nm (h : Int) light)
def sureOk (xs : List Shade) (nm : ByteArray) (light : Int) : Bool := shadesOk xs && (inB light 0 100 && xs.any (named nm))
def sureR (xs : List Shade) (nm : ByteArray) (light : Int) : Int := if sureOk xs nm light then (cnt (sureAt xs nm light) 360 : Int) else 0

theorem shades_apart {xs : List Shade} (h : shadesOk xs = true) : xs.Pairwise fun a b => a.Name.toList ≠ b.Name.toList := by
  simp only [shadesOk, Bool.and_eq_true] at h
  have := (adj_pairwise (p := shP) (R := fun a b => Op.bytesLess a.Name.toList b.Name.toList = true) (fun x y hp => by simp only [shP, nameLess, Bool.and_eq_true] at hp; exact hp.2) (fun x y z => bytesLess_trans _ _ _) xs none h.1).1
  exact this.imp (fun {a b} hab e => by rw [e, bytesLess_irrefl] at hab; cases hab)
theorem sure_eq {xs : List Shade} {nm : ByteArray} {x : Shade} {light : Int} {h : Nat} (hv : shadesOk xs = true) (hx : x ∈ xs) (hn : named nm x = true) : sureAt xs nm light h = (takes (h : Int) light x && (xs.countP (takes (h : Int) light) == 1)) := by
  have := key_one (f := fun x : Shade => x.Name.toList) (takes (h : Int) light) (shades_apart hv) hx
  rw [← this]
  unfold sureAt
  congr 1
  funext y
  simp only [named, beq_iff_eq] at hn
  simp [sureP, named, hn]

end Go.Proofs.Ytekfccfghmggmaa
