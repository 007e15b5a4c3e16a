/-
  The walk of the program's functions: the common part.
-/
import Derived.Test.YthldemeodnlhbaaR24
import Derived.Test.YthldemeodnlhbaaProg
namespace Go.Proofs.Ythldemeodnlhbaa.R
open Go
set_option linter.unusedVariables false
def bodyOf (fn : Func) : Code := match fn.body with | some c => c | none => .skip
def at_ (fn : Func) (id : Nat) : List Item := (itemsAt id (bodyOf fn) []).getD []
theorem tyOK : TyOK Try.prog (tiOf Try.prog) := ⟨by kernel_rfl, fun _ _ h => h⟩
def env0 : Env := fun _ => .none
theorem env0_ok : EnvOK Try.prog env0 := fun _ => trivial

theorem PureOK.sp {P : Program} {f : FuncId} {pre : List F → Bool} {res : List F → F} (h : PureOK P f pre res) : SpOK P f (.pure pre res) := h
/-- One function more is known. -/
def Env.add (C : Env) (f : FuncId) (s : Sp) : Env := fun g => match Nat.beq g f with
  | true => s
  | false => C g
theorem Env.add_ok {C : Env} (hC : EnvOK Try.prog C) {f : FuncId} {s : Sp} (h : SpOK Try.prog f s) : EnvOK Try.prog (C.add f s) := by
  intro g
  unfold Env.add
  split
  · rename_i e
    have := Nat.eq_of_beq_eq_true e
    subst this
    exact h
  · exact hC g
end Go.Proofs.Ythldemeodnlhbaa.R
