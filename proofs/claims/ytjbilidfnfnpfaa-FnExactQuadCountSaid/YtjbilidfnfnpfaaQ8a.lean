/-
  What is known of a tree's count.
-/
import Derived.Test.YtjbilidfnfnpfaaQ6
namespace Go.Proofs.Ytjbilidfnfnpfaa.R
open Go
noncomputable section
def lvs : Tr → Nat
  | .leaf _ _ _ _ => 1
  | .node _ _ _ a b c d => lvs a + lvs b + lvs c + lvs d
def cntOk (D : Nat) (t : Tr) : Bool := decide (trDepth t < D) && decide (D ≤ 9)
def preCn (D : Nat) : List F → Bool | [t] => isTr t && cntOk D (unTr t) | _ => false
def lvsV (t : Tr) : Int := lvs t
def dptV (t : Tr) : Int := trDepth t
def resCn : List F → F | [t] => .tup [.int .i64 (lvsV (unTr t)), .int .i64 (dptV (unTr t))] | _ => .dflt
def envCn (D : Nat) : Env := envQ6.add 77 (.pure (preCn D) resCn)
end
end Go.Proofs.Ytjbilidfnfnpfaa.R
