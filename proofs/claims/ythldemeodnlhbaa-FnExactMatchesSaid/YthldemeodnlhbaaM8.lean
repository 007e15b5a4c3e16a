/-
  The walk of the functions about masks: both ways to match agree.
-/
import Derived.Test.YthldemeodnlhbaaM7
namespace Go.Proofs.Ythldemeodnlhbaa.R
open Go
set_option linter.unusedVariables false
set_option maxRecDepth 100000
/-! ### function 5 -/
def T5 {ρ : Type} (ret : Bool → Option ρ) (a0 : ByteArray) (a1 : ByteArray) : Option ρ :=
  (bsel (decide ((↑a0.size : Int) > 1048576))
   (ret (true))
   (bsel (decide ((↑a1.size : Int) > 1048576))
    (ret (true))
    (bsel (!meetV a0 a1 == meetV a0 a1)
     (ret (false))
     (ret (true)))))
def G5 (a0 : ByteArray) (a1 : ByteArray) : Option (Bool) := T5 some a0 a1
theorem t5 (a0 : ByteArray) (a1 : ByteArray) (r : Bool) (h : G5 a0 a1 = some r) : Ends Try.prog Try.f5.results.toList [.code (bodyOf Try.f5)] (start Try.f5.ntmps ([F.str a0, F.str a1].map .f)) (F.bool r) := by
  refine Ends.of_run tyOK env9_ok (T := []) (n := 200) ?_
  have e : run Try.prog (tiOf Try.prog) env9 [] 0 Try.f5.results.toList some 200 [.code (bodyOf Try.f5)] (start Try.f5.ntmps ([F.str a0, F.str a1].map .f)) = T5 (fun r => some (.ret (F.bool r))) a0 a1 := by kernel_rfl
  rw [e]
  exact (good_sel h (fun _ h => good_ret (by cases h; rfl)) (fun _ h => (good_sel h (fun _ h => good_ret (by cases h; rfl)) (fun _ h => (good_sel h (fun _ h => good_ret (by cases h; rfl)) (fun _ h => good_ret (by cases h; rfl)))))))
theorem ok5 : PureOK Try.prog 5 pre13 (fun _ => .bool true) :=
  fn_pure (c := bodyOf Try.f5) Try.func5 (by kernel_rfl) (by kernel_rfl) fun xs hp => match xs, hp with
  | [.str s, .str b], hp => t5 s b true (by
      unfold G5 T5
      cases decide ((s.size : Int) > 1048576) <;> cases decide ((b.size : Int) > 1048576) <;> cases meetV s b <;> rfl)
end Go.Proofs.Ythldemeodnlhbaa.R
