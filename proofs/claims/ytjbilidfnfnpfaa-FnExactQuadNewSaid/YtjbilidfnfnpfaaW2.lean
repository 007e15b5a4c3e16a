/-
  The walk of spots and turns: right spots.
-/
import Derived.Test.YtjbilidfnfnpfaaW1
namespace Go.Proofs.Ytjbilidfnfnpfaa.R
open Go
set_option linter.unusedVariables false
set_option linter.unusedSimpArgs false
set_option maxRecDepth 100000
/-! ### function 100 -/
def T100 {ρ : Type} (ret : (Bool) → Option ρ) (x0 : Int) (y0 : Int) : Option ρ :=
  (bsel (inV x0 (-1000000) 1000000 == true)
   (ret (inV y0 (-1000000) 1000000))
   (ret (false)))
def G100 (x0 : Int) (y0 : Int) : Option (Bool) := T100 some x0 y0
theorem t100 (x0 : Int) (y0 : Int) (r : Bool) (h : G100 x0 y0 = some r) : Ends Try.prog Try.f100.results.toList [.code (bodyOf Try.f100)] (start Try.f100.ntmps ([F.agg [F.int .i64 x0, F.int .i64 y0]].map .f)) (F.bool r) := by
  refine Ends.of_run tyOK envW1_ok (T := []) (n := 200) ?_
  have e : run Try.prog (tiOf Try.prog) envW1 [] 0 Try.f100.results.toList some 200 [.code (bodyOf Try.f100)] (start Try.f100.ntmps ([F.agg [F.int .i64 x0, F.int .i64 y0]].map .f)) = T100 (fun r => some (.ret (F.bool r))) x0 y0 := by kernel_rfl
  rw [e]
  exact (good_sel h (fun _ h => good_ret (by cases h; rfl)) (fun _ h => good_ret (by cases h; rfl)))
/-! ### function 103 -/
def T103 {ρ : Type} (ret : (Bool) → Option ρ) (x0 : Int) (y0 : Int) : Option ρ :=
  (bsel (inV x0 (-1000000) 1000000 == true)
   (ret (inV y0 (-1000000) 1000000))
   (ret (false)))
def G103 (x0 : Int) (y0 : Int) : Option (Bool) := T103 some x0 y0
theorem t103 (x0 : Int) (y0 : Int) (r : Bool) (h : G103 x0 y0 = some r) : Ends Try.prog Try.f103.results.toList [.code (bodyOf Try.f103)] (start Try.f103.ntmps ([F.agg [F.int .i64 x0, F.int .i64 y0]].map .f)) (F.bool r) := by
  refine Ends.of_run tyOK envW1_ok (T := []) (n := 200) ?_
  have e : run Try.prog (tiOf Try.prog) envW1 [] 0 Try.f103.results.toList some 200 [.code (bodyOf Try.f103)] (start Try.f103.ntmps ([F.agg [F.int .i64 x0, F.int .i64 y0]].map .f)) = T103 (fun r => some (.ret (F.bool r))) x0 y0 := by kernel_rfl
  rw [e]
  exact (good_sel h (fun _ h => good_ret (by cases h; rfl)) (fun _ h => good_ret (by cases h; rfl)))
def spotOkV (x y : Int) : Bool := inV x (-1000000) 1000000 && inV y (-1000000) 1000000
theorem spotOk_spec (x y : Int) : G100 x y = some (spotOkV x y) := by
  unfold G100 T100 spotOkV
  cases inV x (-1000000) 1000000 <;> rfl
theorem spotOk_impl (x y : Int) : G103 x y = some (spotOkV x y) := by
  unfold G103 T103 spotOkV
  cases inV x (-1000000) 1000000 <;> rfl
def resSpotOk : List F → F | [.agg [.int .i64 x, .int .i64 y]] => .bool (spotOkV x y) | _ => .dflt
theorem okSpotOkS : PureOK Try.prog 100 pre1p resSpotOk :=
  fn_pure (c := bodyOf Try.f100) Try.func100 (by kernel_rfl) (by kernel_rfl) fun xs hp => match xs, hp with
  | [.agg [.int .i64 x, .int .i64 y]], hp => t100 x y _ (spotOk_spec x y)
theorem okSpotOkI : PureOK Try.prog 103 pre1p resSpotOk :=
  fn_pure (c := bodyOf Try.f103) Try.func103 (by kernel_rfl) (by kernel_rfl) fun xs hp => match xs, hp with
  | [.agg [.int .i64 x, .int .i64 y]], hp => t103 x y _ (spotOk_impl x y)
theorem spotOk_iff {x y : Int} : spotOkV x y = true ↔ -1000000 ≤ x ∧ x ≤ 1000000 ∧ -1000000 ≤ y ∧ y ≤ 1000000 := by
  simp only [spotOkV, inV, Bool.and_eq_true, decide_eq_true_eq]
  omega
def envW2 : Env := (envW1.add 100 (.pure pre1p resSpotOk)).add 103 (.pure pre1p resSpotOk)
theorem envW2_ok : EnvOK Try.prog envW2 := Env.add_ok (Env.add_ok envW1_ok okSpotOkS.sp) okSpotOkI.sp
end Go.Proofs.Ytjbilidfnfnpfaa.R
