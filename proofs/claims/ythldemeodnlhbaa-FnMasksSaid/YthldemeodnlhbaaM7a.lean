/-
  The walk of the functions about masks: which functions are known before Matches.
-/
import Derived.Test.YthldemeodnlhbaaM4
namespace Go.Proofs.Ythldemeodnlhbaa.R
open Go
set_option linter.unusedVariables false
def env8 : Env := fun f => match f with | 9 => .pure pre9 res9 | 10 => .pure pre9 res9 | 30 => .pure pre9 res30 | 31 => .pure pre9 res30 | _ => .none
theorem env8_ok : EnvOK Try.prog env8 := by
  intro f
  unfold env8
  split
  · exact ok9
  · exact ok10
  · exact ok30
  · exact ok31
  · trivial
end Go.Proofs.Ythldemeodnlhbaa.R
