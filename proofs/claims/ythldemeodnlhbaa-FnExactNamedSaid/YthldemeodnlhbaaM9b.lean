/-
  The walk of the functions about masks: which functions are known before Named.
-/
import Derived.Test.YthldemeodnlhbaaM9a
namespace Go.Proofs.Ythldemeodnlhbaa.R
open Go
set_option linter.unusedVariables false
theorem ok32 : PureOK Try.prog 32 pre9 res32 :=
  fn_pure_le (c := bodyOf Try.f32) Try.func32 (by kernel_rfl) (by kernel_rfl) fun xs hp => match xs, hp with
  | [.str s], hp => let ⟨r, h1, h2⟩ := G32_eq s; ⟨r, t32 s r h1, h2⟩
def r33 : F := match G33 with | some r => r | none => .dflt
def pre33 : List F → Bool | [] => true | _ => false
theorem ok33 : PureOK Try.prog 33 pre33 (fun _ => r33) :=
  fn_pure (c := bodyOf Try.f33) Try.func33 (by kernel_rfl) (by kernel_rfl) fun xs hp => match xs, hp with
  | [], hp => t33 r33 rfl
def env10 : Env := fun f => match f with | 13 => .pure pre13 res13 | 14 => .pure pre13 res13 | 30 => .pure pre9 res30 | 31 => .pure pre9 res30 | 32 => .pure pre9 res32 | 33 => .pure pre33 (fun _ => r33) | _ => .none
theorem env10_ok : EnvOK Try.prog env10 := by
  intro f
  unfold env10
  split
  · exact ok13
  · exact ok14
  · exact ok30
  · exact ok31
  · exact ok32
  · exact ok33
  · trivial
end Go.Proofs.Ythldemeodnlhbaa.R
