/-
  Segments in slices, as lists.
-/
import Derived.Test.YtjbilidfnfnpfaaW3
namespace Go.Proofs.Ytjbilidfnfnpfaa.R
open Go
set_option linter.unusedVariables false
set_option linter.unusedSimpArgs false
structure Sg where
  x0 : Int
  y0 : Int
  x1 : Int
  y1 : Int
def Sg.zero : Sg := ⟨0, 0, 0, 0⟩
def sgF (s : Sg) : F := .agg [.int .i64 s.x0, .int .i64 s.y0, .int .i64 s.x1, .int .i64 s.y1]
def isSg : F → Bool
  | .agg [.int .i64 _, .int .i64 _, .int .i64 _, .int .i64 _] => true
  | _ => false
def unSg : F → Sg
  | .agg [.int .i64 a, .int .i64 b, .int .i64 c, .int .i64 d] => ⟨a, b, c, d⟩
  | _ => .zero
def segsF (l : List Sg) : F := slF sgF .zero l
def isSegs (x : F) : Bool := isSl isSg x
def unSegs (x : F) : List Sg := unSl unSg x
theorem unSegs_segsF (l : List Sg) : unSegs (segsF l) = l := unSl_slF (fun _ => rfl) l
theorem isSegs_segsF (l : List Sg) : isSegs (segsF l) = true := isSl_slF l fun _ _ => rfl
theorem sg_eq {x : F} (h : isSg x = true) : sgF (unSg x) = x := by
  unfold isSg at h
  split at h
  · rfl
  · cases h
theorem segs_eqv {x : F} (hx : isSegs x = true) : FLe x (segsF (unSegs x)) ∧ FLe (segsF (unSegs x)) x := slF_eqv (fun _ h => sg_eq h) hx
theorem atSegs {n : Nat} {g : Nat → F} (h : isSegs (.sl n g) = true) {j : Nat} (hj : j < n) : g j = sgF ((unSegs (.sl n g)).getD j Sg.zero) := sl_at Sg.zero (fun _ h => sg_eq h) h hj
end Go.Proofs.Ytjbilidfnfnpfaa.R
