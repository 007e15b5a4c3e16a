/-
  The walk of the functions about masks: both ways to ask by name agree.
-/
import Derived.Test.YthldemeodnlhbaaM9
namespace Go.Proofs.Ythldemeodnlhbaa.R
open Go
set_option linter.unusedVariables false
set_option maxRecDepth 100000
/-! ### function 6 -/
def T6 {ρ : Type} (ret : (Bool) → Option ρ) (a0 : ByteArray) (a1 : ByteArray) : Option ρ :=
  (bsel (decide ((↑a0.size : Int) > 1048576))
   (ret (true))
   (bsel (decide ((↑a1.size : Int) > 1048576))
    (ret (true))
    (bsel ((!(namedV a0 a1).fst == (namedV a0 a1).fst) == false)
     (bsel (!(namedV a0 a1).snd == (namedV a0 a1).snd)
      (ret (false))
      (ret (true)))
     (ret (false)))))
def G6 (a0 : ByteArray) (a1 : ByteArray) : Option (Bool) := T6 some a0 a1
theorem t6 (a0 : ByteArray) (a1 : ByteArray) (r : Bool) (h : G6 a0 a1 = some r) : Ends Try.prog Try.f6.results.toList [.code (bodyOf Try.f6)] (start Try.f6.ntmps ([F.str a0, F.str a1].map .f)) (F.bool r) := by
  refine Ends.of_run tyOK env11_ok (T := []) (n := 200) ?_
  have e : run Try.prog (tiOf Try.prog) env11 [] 0 Try.f6.results.toList some 200 [.code (bodyOf Try.f6)] (start Try.f6.ntmps ([F.str a0, F.str a1].map .f)) = T6 (fun r => some (.ret (F.bool r))) a0 a1 := by kernel_rfl
  rw [e]
  exact (good_sel h (fun _ h => good_ret (by cases h; rfl)) (fun _ h => (good_sel h (fun _ h => good_ret (by cases h; rfl)) (fun _ h => (good_sel h (fun _ h => (good_sel h (fun _ h => good_ret (by cases h; rfl)) (fun _ h => good_ret (by cases h; rfl)))) (fun _ h => good_ret (by cases h; rfl)))))))
theorem ok6 : PureOK Try.prog 6 pre13 (fun _ => .bool true) :=
  fn_pure (c := bodyOf Try.f6) Try.func6 (by kernel_rfl) (by kernel_rfl) fun xs hp => match xs, hp with
  | [.str s, .str b], hp => t6 s b true (by
      unfold G6 T6
      cases decide ((s.size : Int) > 1048576) <;> cases decide ((b.size : Int) > 1048576) <;> cases (namedV s b).1 <;> cases (namedV s b).2 <;> rfl)
end Go.Proofs.Ythldemeodnlhbaa.R
