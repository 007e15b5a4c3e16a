/-
  The walk of the functions about masks: a byte's place in a text.
-/
import Derived.Test.YthldemeodnlhbaaM0
namespace Go.Proofs.Ythldemeodnlhbaa.R
open Go
set_option linter.unusedVariables false
set_option maxRecDepth 100000
/-! ### function 55 -/
def T55 {ρ : Type} (ret : Int → Option ρ) (a0 : ByteArray) (a1 : Int) : Option ρ :=
  (ret (idx a0 a1))
def G55 (a0 : ByteArray) (a1 : Int) : Option (Int) := T55 some a0 a1
theorem t55 (a0 : ByteArray) (a1 : Int) (r : Int) (h : G55 a0 a1 = some r) : Ends Try.prog Try.f55.results.toList [.code (bodyOf Try.f55)] (start Try.f55.ntmps ([F.str a0, F.int .u8 a1].map .f)) (F.int .i64 r) := by
  refine Ends.of_run tyOK env1_ok (T := []) (n := 200) ?_
  have e : run Try.prog (tiOf Try.prog) env1 [] 0 Try.f55.results.toList some 200 [.code (bodyOf Try.f55)] (start Try.f55.ntmps ([F.str a0, F.int .u8 a1].map .f)) = T55 (fun r => some (.ret (F.int .i64 r))) a0 a1 := by kernel_rfl
  rw [e]
  exact good_ret (by cases h; rfl)
theorem ok55 : PureOK Try.prog 55 pre61 res61 :=
  fn_pure (c := bodyOf Try.f55) Try.func55 (by kernel_rfl) (by kernel_rfl) fun xs hp => match xs, hp with
  | [.str a0, .int .u8 a1], _ => t55 a0 a1 _ rfl
def env2 : Env := fun f => match f with | 55 => .pure pre61 res61 | _ => .none
theorem env2_ok : EnvOK Try.prog env2 := by
  intro f
  unfold env2
  split
  · exact ok55
  · trivial
/-! ### function 45 -/
def T45 {ρ : Type} (ret : Int → Option ρ) (a0 : ByteArray) (a1 : Int) : Option ρ :=
  (ret (idx a0 a1))
def G45 (a0 : ByteArray) (a1 : Int) : Option (Int) := T45 some a0 a1
theorem t45 (a0 : ByteArray) (a1 : Int) (r : Int) (h : G45 a0 a1 = some r) : Ends Try.prog Try.f45.results.toList [.code (bodyOf Try.f45)] (start Try.f45.ntmps ([F.str a0, F.int .u8 a1].map .f)) (F.int .i64 r) := by
  refine Ends.of_run tyOK env2_ok (T := []) (n := 200) ?_
  have e : run Try.prog (tiOf Try.prog) env2 [] 0 Try.f45.results.toList some 200 [.code (bodyOf Try.f45)] (start Try.f45.ntmps ([F.str a0, F.int .u8 a1].map .f)) = T45 (fun r => some (.ret (F.int .i64 r))) a0 a1 := by kernel_rfl
  rw [e]
  exact good_ret (by cases h; rfl)
theorem ok45 : PureOK Try.prog 45 pre61 res61 :=
  fn_pure (c := bodyOf Try.f45) Try.func45 (by kernel_rfl) (by kernel_rfl) fun xs hp => match xs, hp with
  | [.str a0, .int .u8 a1], _ => t45 a0 a1 _ rfl
def env3 : Env := fun f => match f with | 45 => .pure pre61 res61 | _ => .none
theorem env3_ok : EnvOK Try.prog env3 := by
  intro f
  unfold env3
  split
  · exact ok45
  · trivial
end Go.Proofs.Ythldemeodnlhbaa.R
