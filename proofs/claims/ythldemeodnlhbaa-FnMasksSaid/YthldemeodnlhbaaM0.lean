/-
  The walk of the functions about masks: the common part, and what is given from outside.
-/
import Derived.Test.YthldemeodnlhbaaD0
namespace Go.Proofs.Ythldemeodnlhbaa.R
open Go
set_option linter.unusedVariables false
/-- The place of a byte in a text, else -1. -/
def idx (s : ByteArray) (c : Int) : Int := Go.Lib.indexByte s.data.toList c.toNat.toUInt8
def pre61 : List F → Bool | [.str _, .int .u8 _] => true | _ => false
def res61 : List F → F | [.str s, .int .u8 c] => .int .i64 (idx s c) | _ => .bool false
theorem ok61 : PureOK Try.prog 61 pre61 res61 := by
  intro xs hp w Z args hZ hL
  unfold pre61 at hp
  split at hp
  · rename_i s c
    obtain ⟨hl, hr⟩ := hL
    obtain ⟨v1, v2, rfl⟩ : ∃ v1 v2, args = #[v1, v2] := by
      match hq : args.toList, hl with
      | [v1, v2], _ => exact ⟨v1, v2, by apply Array.ext'; simpa using hq⟩
    have h1 := hr 0 _ v1 rfl rfl
    have h2 := hr 1 _ v2 rfl rfl
    cases h1; cases h2
    refine .inr ⟨.int .i64 (idx s c), w, ?_, ⟨rfl, rfl, rfl, Nat.le_refl _, fun _ _ => rfl⟩, Z, fun _ h => .inl h, .int _ _⟩
    have hp' : (program).run Try.prog w = .ok Try.prog w := rfl
    have hn : (Try.f61.name == "runtime.NumGoroutine") = false := by kernel_rfl
    have hb : Try.f61.body.isNone = true := by kernel_rfl
    have hx : Extern.findNext Try.f61 = none := by kernel_rfl
    have hy : Extern.find Try.f61 = some Extern.BytealgIndexByte.indexByte := by kernel_rfl
    have hm : (mark (.extern 61)).run Try.prog w = .ok () w := rfl
    unfold callFunc
    simp only [Sem.run_bind, hp', Result.andThen, Try.func61, hn, hb, Bool.false_eq_true, if_false, if_true, hm, hx, hy, Sem.run_pure, Lib.run_indexByteString]
    rfl
  · cases hp
def env1 : Env := fun f => match f with | 61 => .pure pre61 res61 | _ => .none
theorem env1_ok : EnvOK Try.prog env1 := by
  intro f
  unfold env1
  split
  · exact ok61
  · trivial
end Go.Proofs.Ythldemeodnlhbaa.R
