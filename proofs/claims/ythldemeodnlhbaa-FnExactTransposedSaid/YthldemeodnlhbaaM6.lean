/-
  The walk of the functions about masks: both ways to transpose agree.
-/
import Derived.Test.YthldemeodnlhbaaM5
namespace Go.Proofs.Ythldemeodnlhbaa.R
open Go
noncomputable section
set_option linter.unusedVariables false
set_option maxRecDepth 100000
/-! ### function 4 -/
def T4 {ρ : Type} (ret : Bool → Option ρ) (a0 : ByteArray) : Option ρ :=
  (bsel (decide ((↑a0.size : Int) > 1048576))
   (ret (true))
   (bsel (!(transV a0).toList == (transV a0).toList)
    (ret (false))
    (ret (true))))
def G4 (a0 : ByteArray) : Option (Bool) := T4 some a0
theorem t4 (a0 : ByteArray) (r : Bool) (h : G4 a0 = some r) : Ends Try.prog Try.f4.results.toList [.code (bodyOf Try.f4)] (start Try.f4.ntmps ([F.str a0].map .f)) (F.bool r) := by
  refine Ends.of_run tyOK env7_ok (T := []) (n := 200) ?_
  have e : run Try.prog (tiOf Try.prog) env7 [] 0 Try.f4.results.toList some 200 [.code (bodyOf Try.f4)] (start Try.f4.ntmps ([F.str a0].map .f)) = T4 (fun r => some (.ret (F.bool r))) a0 := by kernel_rfl
  rw [e]
  exact (good_sel h (fun _ h => good_ret (by cases h; rfl)) (fun _ h => (good_sel h (fun _ h => good_ret (by cases h; rfl)) (fun _ h => good_ret (by cases h; rfl)))))
theorem ok4 : PureOK Try.prog 4 pre9 (fun _ => .bool true) :=
  fn_pure (c := bodyOf Try.f4) Try.func4 (by kernel_rfl) (by kernel_rfl) fun xs hp => match xs, hp with
  | [.str s], hp => t4 s true (by
      unfold G4 T4
      cases decide ((s.size : Int) > 1048576) <;> simp [bsel])
end
end Go.Proofs.Ythldemeodnlhbaa.R
