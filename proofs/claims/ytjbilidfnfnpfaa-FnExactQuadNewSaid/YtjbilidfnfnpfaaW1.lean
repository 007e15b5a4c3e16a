/-
  The walk of spots and turns: functions of whole numbers that call nothing.
-/
import Derived.Test.YtjbilidfnfnpfaaD0
namespace Go.Proofs.Ytjbilidfnfnpfaa.R
open Go
set_option linter.unusedVariables false
set_option linter.unusedSimpArgs false
set_option maxRecDepth 100000
/-! ### function 94 -/
def T94 {ρ : Type} (ret : (Bool) → Option ρ) (a0 : Int) (a1 : Int) (a2 : Int) : Option ρ :=
  (bsel (decide (a0 ≥ a1) == true)
   (ret (decide (a0 ≤ a2)))
   (ret (false)))
def G94 (a0 : Int) (a1 : Int) (a2 : Int) : Option (Bool) := T94 some a0 a1 a2
theorem t94 (a0 : Int) (a1 : Int) (a2 : Int) (r : Bool) (h : G94 a0 a1 a2 = some r) : Ends Try.prog Try.f94.results.toList [.code (bodyOf Try.f94)] (start Try.f94.ntmps ([F.int .i64 a0, F.int .i64 a1, F.int .i64 a2].map .f)) (F.bool r) := by
  refine Ends.of_run tyOK env0_ok (T := []) (n := 200) ?_
  have e : run Try.prog (tiOf Try.prog) env0 [] 0 Try.f94.results.toList some 200 [.code (bodyOf Try.f94)] (start Try.f94.ntmps ([F.int .i64 a0, F.int .i64 a1, F.int .i64 a2].map .f)) = T94 (fun r => some (.ret (F.bool r))) a0 a1 a2 := by kernel_rfl
  rw [e]
  exact (good_sel h (fun _ h => good_ret (by cases h; rfl)) (fun _ h => good_ret (by cases h; rfl)))
/-! ### function 59 -/
def T59 {ρ : Type} (ret : (Bool) → Option ρ) (a0 : Int) (a1 : Int) (a2 : Int) : Option ρ :=
  (bsel (decide (a1 ≤ a0) == true)
   (ret (decide (a0 ≤ a2)))
   (ret (false)))
def G59 (a0 : Int) (a1 : Int) (a2 : Int) : Option (Bool) := T59 some a0 a1 a2
theorem t59 (a0 : Int) (a1 : Int) (a2 : Int) (r : Bool) (h : G59 a0 a1 a2 = some r) : Ends Try.prog Try.f59.results.toList [.code (bodyOf Try.f59)] (start Try.f59.ntmps ([F.int .i64 a0, F.int .i64 a1, F.int .i64 a2].map .f)) (F.bool r) := by
  refine Ends.of_run tyOK env0_ok (T := []) (n := 200) ?_
  have e : run Try.prog (tiOf Try.prog) env0 [] 0 Try.f59.results.toList some 200 [.code (bodyOf Try.f59)] (start Try.f59.ntmps ([F.int .i64 a0, F.int .i64 a1, F.int .i64 a2].map .f)) = T59 (fun r => some (.ret (F.bool r))) a0 a1 a2 := by kernel_rfl
  rw [e]
  exact (good_sel h (fun _ h => good_ret (by cases h; rfl)) (fun _ h => good_ret (by cases h; rfl)))
/-! ### function 127 -/
def T127 {ρ : Type} (ret : (Bool) → Option ρ) (x0 : Int) (y0 : Int) (x1 : Int) (y1 : Int) : Option ρ :=
  (bsel (decide (x0 < x1) == false)
   (bsel ((x0 == x1) == true)
    (ret (decide (y0 < y1)))
    (ret (false)))
   (ret (true)))
def G127 (x0 : Int) (y0 : Int) (x1 : Int) (y1 : Int) : Option (Bool) := T127 some x0 y0 x1 y1
theorem t127 (x0 : Int) (y0 : Int) (x1 : Int) (y1 : Int) (r : Bool) (h : G127 x0 y0 x1 y1 = some r) : Ends Try.prog Try.f127.results.toList [.code (bodyOf Try.f127)] (start Try.f127.ntmps ([F.agg [F.int .i64 x0, F.int .i64 y0], F.agg [F.int .i64 x1, F.int .i64 y1]].map .f)) (F.bool r) := by
  refine Ends.of_run tyOK env0_ok (T := []) (n := 200) ?_
  have e : run Try.prog (tiOf Try.prog) env0 [] 0 Try.f127.results.toList some 200 [.code (bodyOf Try.f127)] (start Try.f127.ntmps ([F.agg [F.int .i64 x0, F.int .i64 y0], F.agg [F.int .i64 x1, F.int .i64 y1]].map .f)) = T127 (fun r => some (.ret (F.bool r))) x0 y0 x1 y1 := by kernel_rfl
  rw [e]
  exact (good_sel h (fun _ h => (good_sel h (fun _ h => good_ret (by cases h; rfl)) (fun _ h => good_ret (by cases h; rfl)))) (fun _ h => good_ret (by cases h; rfl)))
/-! ### function 112 -/
def T112 {ρ : Type} (ret : (Int) → Option ρ) (x0 : Int) (y0 : Int) (x1 : Int) (y1 : Int) : Option ρ :=
  (bsel (x0 == x1 && (y0 == y1 && true))
   (ret (0))
   (bsel (decide (x0 < x1) == false)
    (bsel ((x0 == x1) == true)
     (bsel (decide (y0 < y1))
      (ret (-1))
      (ret (1)))
     (ret (1)))
    (ret (-1))))
def G112 (x0 : Int) (y0 : Int) (x1 : Int) (y1 : Int) : Option (Int) := T112 some x0 y0 x1 y1
theorem t112 (x0 : Int) (y0 : Int) (x1 : Int) (y1 : Int) (r : Int) (h : G112 x0 y0 x1 y1 = some r) : Ends Try.prog Try.f112.results.toList [.code (bodyOf Try.f112)] (start Try.f112.ntmps ([F.agg [F.int .i64 x0, F.int .i64 y0], F.agg [F.int .i64 x1, F.int .i64 y1]].map .f)) (F.int .i64 r) := by
  refine Ends.of_run tyOK env0_ok (T := []) (n := 200) ?_
  have e : run Try.prog (tiOf Try.prog) env0 [] 0 Try.f112.results.toList some 200 [.code (bodyOf Try.f112)] (start Try.f112.ntmps ([F.agg [F.int .i64 x0, F.int .i64 y0], F.agg [F.int .i64 x1, F.int .i64 y1]].map .f)) = T112 (fun r => some (.ret (F.int .i64 r))) x0 y0 x1 y1 := by kernel_rfl
  rw [e]
  exact (good_sel h (fun _ h => good_ret (by cases h; rfl)) (fun _ h => (good_sel h (fun _ h => (good_sel h (fun _ h => (good_sel h (fun _ h => good_ret (by cases h; rfl)) (fun _ h => good_ret (by cases h; rfl)))) (fun _ h => good_ret (by cases h; rfl)))) (fun _ h => good_ret (by cases h; rfl)))))
/-! ### function 104 -/
def T104 {ρ : Type} (ret : (Int) → Option ρ) (a0 : Int) : Option ρ :=
  (bsel (decide (a0 < 0))
   (ret (-1))
   (bsel (decide (a0 > 0))
    (ret (1))
    (ret (0))))
def G104 (a0 : Int) : Option (Int) := T104 some a0
theorem t104 (a0 : Int) (r : Int) (h : G104 a0 = some r) : Ends Try.prog Try.f104.results.toList [.code (bodyOf Try.f104)] (start Try.f104.ntmps ([F.int .i64 a0].map .f)) (F.int .i64 r) := by
  refine Ends.of_run tyOK env0_ok (T := []) (n := 200) ?_
  have e : run Try.prog (tiOf Try.prog) env0 [] 0 Try.f104.results.toList some 200 [.code (bodyOf Try.f104)] (start Try.f104.ntmps ([F.int .i64 a0].map .f)) = T104 (fun r => some (.ret (F.int .i64 r))) a0 := by kernel_rfl
  rw [e]
  exact (good_sel h (fun _ h => good_ret (by cases h; rfl)) (fun _ h => (good_sel h (fun _ h => good_ret (by cases h; rfl)) (fun _ h => good_ret (by cases h; rfl)))))
/-! ### function 105 -/
def T105 {ρ : Type} (ret : (Int) → Option ρ) (x0 : Int) (y0 : Int) (x1 : Int) (y1 : Int) (x2 : Int) (y2 : Int) : Option ρ :=
  (ret (IntKind.i64.wrap (IntKind.i64.wrap (IntKind.i64.wrap (x1 - x0) * IntKind.i64.wrap (y2 - y0)) - IntKind.i64.wrap (IntKind.i64.wrap (y1 - y0) * IntKind.i64.wrap (x2 - x0)))))
def G105 (x0 : Int) (y0 : Int) (x1 : Int) (y1 : Int) (x2 : Int) (y2 : Int) : Option (Int) := T105 some x0 y0 x1 y1 x2 y2
theorem t105 (x0 : Int) (y0 : Int) (x1 : Int) (y1 : Int) (x2 : Int) (y2 : Int) (r : Int) (h : G105 x0 y0 x1 y1 x2 y2 = some r) : Ends Try.prog Try.f105.results.toList [.code (bodyOf Try.f105)] (start Try.f105.ntmps ([F.agg [F.int .i64 x0, F.int .i64 y0], F.agg [F.int .i64 x1, F.int .i64 y1], F.agg [F.int .i64 x2, F.int .i64 y2]].map .f)) (F.int .i64 r) := by
  refine Ends.of_run tyOK env0_ok (T := []) (n := 200) ?_
  have e : run Try.prog (tiOf Try.prog) env0 [] 0 Try.f105.results.toList some 200 [.code (bodyOf Try.f105)] (start Try.f105.ntmps ([F.agg [F.int .i64 x0, F.int .i64 y0], F.agg [F.int .i64 x1, F.int .i64 y1], F.agg [F.int .i64 x2, F.int .i64 y2]].map .f)) = T105 (fun r => some (.ret (F.int .i64 r))) x0 y0 x1 y1 x2 y2 := by kernel_rfl
  rw [e]
  exact good_ret (by cases h; rfl)
/-! ### function 101 -/
def T101 {ρ : Type} (ret : (Int) → Option ρ) (x0 : Int) (y0 : Int) (x1 : Int) (y1 : Int) (x2 : Int) (y2 : Int) : Option ρ :=
  (bsel (decide (IntKind.i64.wrap (IntKind.i64.wrap (IntKind.i64.wrap (x1 - x0) * IntKind.i64.wrap (y2 - y0)) - IntKind.i64.wrap (IntKind.i64.wrap (y1 - y0) * IntKind.i64.wrap (x2 - x0))) < 0))
   (ret (-1))
   (bsel (decide (IntKind.i64.wrap (IntKind.i64.wrap (IntKind.i64.wrap (x1 - x0) * IntKind.i64.wrap (y2 - y0)) - IntKind.i64.wrap (IntKind.i64.wrap (y1 - y0) * IntKind.i64.wrap (x2 - x0))) > 0))
    (ret (1))
    (ret (0))))
def G101 (x0 : Int) (y0 : Int) (x1 : Int) (y1 : Int) (x2 : Int) (y2 : Int) : Option (Int) := T101 some x0 y0 x1 y1 x2 y2
theorem t101 (x0 : Int) (y0 : Int) (x1 : Int) (y1 : Int) (x2 : Int) (y2 : Int) (r : Int) (h : G101 x0 y0 x1 y1 x2 y2 = some r) : Ends Try.prog Try.f101.results.toList [.code (bodyOf Try.f101)] (start Try.f101.ntmps ([F.agg [F.int .i64 x0, F.int .i64 y0], F.agg [F.int .i64 x1, F.int .i64 y1], F.agg [F.int .i64 x2, F.int .i64 y2]].map .f)) (F.int .i64 r) := by
  refine Ends.of_run tyOK env0_ok (T := []) (n := 200) ?_
  have e : run Try.prog (tiOf Try.prog) env0 [] 0 Try.f101.results.toList some 200 [.code (bodyOf Try.f101)] (start Try.f101.ntmps ([F.agg [F.int .i64 x0, F.int .i64 y0], F.agg [F.int .i64 x1, F.int .i64 y1], F.agg [F.int .i64 x2, F.int .i64 y2]].map .f)) = T101 (fun r => some (.ret (F.int .i64 r))) x0 y0 x1 y1 x2 y2 := by kernel_rfl
  rw [e]
  exact (good_sel h (fun _ h => good_ret (by cases h; rfl)) (fun _ h => (good_sel h (fun _ h => good_ret (by cases h; rfl)) (fun _ h => good_ret (by cases h; rfl)))))
def pre3i : List F → Bool | [.int .i64 _, .int .i64 _, .int .i64 _] => true | _ => false
def pre1i : List F → Bool | [.int .i64 _] => true | _ => false
def pre1p : List F → Bool | [.agg [.int .i64 _, .int .i64 _]] => true | _ => false
def pre2p : List F → Bool | [.agg [.int .i64 _, .int .i64 _], .agg [.int .i64 _, .int .i64 _]] => true | _ => false
def pre3p : List F → Bool | [.agg [.int .i64 _, .int .i64 _], .agg [.int .i64 _, .int .i64 _], .agg [.int .i64 _, .int .i64 _]] => true | _ => false
def inV (a lo hi : Int) : Bool := decide (lo ≤ a) && decide (a ≤ hi)
def resIn : List F → F | [.int .i64 a, .int .i64 b, .int .i64 c] => .bool (inV a b c) | _ => .dflt
theorem inV_spec (a b c : Int) : G94 a b c = some (inV a b c) := by
  unfold G94 T94 inV
  have e : decide (a ≥ b) = decide (b ≤ a) := rfl
  rw [e]
  cases decide (b ≤ a) <;> rfl
theorem inV_impl (a b c : Int) : G59 a b c = some (inV a b c) := by
  unfold G59 T59 inV
  cases decide (b ≤ a) <;> rfl
theorem okIn : PureOK Try.prog 94 pre3i resIn :=
  fn_pure (c := bodyOf Try.f94) Try.func94 (by kernel_rfl) (by kernel_rfl) fun xs hp => match xs, hp with
  | [.int .i64 a, .int .i64 b, .int .i64 c], hp => t94 a b c _ (inV_spec a b c)
theorem okWithin : PureOK Try.prog 59 pre3i resIn :=
  fn_pure (c := bodyOf Try.f59) Try.func59 (by kernel_rfl) (by kernel_rfl) fun xs hp => match xs, hp with
  | [.int .i64 a, .int .i64 b, .int .i64 c], hp => t59 a b c _ (inV_impl a b c)
def lessV (x0 y0 x1 y1 : Int) : Bool := decide (x0 < x1) || (x0 == x1 && decide (y0 < y1))
theorem lessV_spec (x0 y0 x1 y1 : Int) : G127 x0 y0 x1 y1 = some (lessV x0 y0 x1 y1) := by
  unfold G127 T127 lessV
  cases decide (x0 < x1) <;> cases (x0 == x1) <;> rfl
def resLess : List F → F | [.agg [.int .i64 a, .int .i64 b], .agg [.int .i64 c, .int .i64 d]] => .bool (lessV a b c d) | _ => .dflt
theorem okLess : PureOK Try.prog 127 pre2p resLess :=
  fn_pure (c := bodyOf Try.f127) Try.func127 (by kernel_rfl) (by kernel_rfl) fun xs hp => match xs, hp with
  | [.agg [.int .i64 a, .int .i64 b], .agg [.int .i64 c, .int .i64 d]], hp => t127 a b c d _ (lessV_spec a b c d)
def cmpV (x0 y0 x1 y1 : Int) : Int := bif x0 == x1 && y0 == y1 then 0 else bif lessV x0 y0 x1 y1 then -1 else 1
theorem cmpV_impl (x0 y0 x1 y1 : Int) : G112 x0 y0 x1 y1 = some (cmpV x0 y0 x1 y1) := by
  unfold G112 T112 cmpV lessV
  rw [Bool.and_true]
  cases (x0 == x1) <;> cases (y0 == y1) <;> cases decide (x0 < x1) <;> cases decide (y0 < y1) <;> rfl
def resCmp : List F → F | [.agg [.int .i64 a, .int .i64 b], .agg [.int .i64 c, .int .i64 d]] => .int .i64 (cmpV a b c d) | _ => .dflt
theorem okCmp : PureOK Try.prog 112 pre2p resCmp :=
  fn_pure (c := bodyOf Try.f112) Try.func112 (by kernel_rfl) (by kernel_rfl) fun xs hp => match xs, hp with
  | [.agg [.int .i64 a, .int .i64 b], .agg [.int .i64 c, .int .i64 d]], hp => t112 a b c d _ (cmpV_impl a b c d)
def signV (n : Int) : Int := bif decide (n < 0) then -1 else bif decide (n > 0) then 1 else 0
theorem signV_impl (n : Int) : G104 n = some (signV n) := by
  unfold G104 T104 signV
  cases decide (n < 0) <;> cases decide (n > 0) <;> rfl
def resSign : List F → F | [.int .i64 n] => .int .i64 (signV n) | _ => .dflt
theorem okSign : PureOK Try.prog 104 pre1i resSign :=
  fn_pure (c := bodyOf Try.f104) Try.func104 (by kernel_rfl) (by kernel_rfl) fun xs hp => match xs, hp with
  | [.int .i64 n], hp => t104 n _ (signV_impl n)
/-- As the machine counts it. -/
def crossW (x0 y0 x1 y1 x2 y2 : Int) : Int := IntKind.i64.wrap (IntKind.i64.wrap (IntKind.i64.wrap (x1 - x0) * IntKind.i64.wrap (y2 - y0)) - IntKind.i64.wrap (IntKind.i64.wrap (y1 - y0) * IntKind.i64.wrap (x2 - x0)))
def resCross : List F → F | [.agg [.int .i64 a, .int .i64 b], .agg [.int .i64 c, .int .i64 d], .agg [.int .i64 e, .int .i64 f]] => .int .i64 (crossW a b c d e f) | _ => .dflt
theorem okCross : PureOK Try.prog 105 pre3p resCross :=
  fn_pure (c := bodyOf Try.f105) Try.func105 (by kernel_rfl) (by kernel_rfl) fun xs hp => match xs, hp with
  | [.agg [.int .i64 a, .int .i64 b], .agg [.int .i64 c, .int .i64 d], .agg [.int .i64 e, .int .i64 f]], hp => t105 a b c d e f _ rfl
def turnV (x0 y0 x1 y1 x2 y2 : Int) : Int := signV (crossW x0 y0 x1 y1 x2 y2)
theorem turnV_spec (x0 y0 x1 y1 x2 y2 : Int) : G101 x0 y0 x1 y1 x2 y2 = some (turnV x0 y0 x1 y1 x2 y2) := by
  unfold G101 T101 turnV signV crossW
  generalize IntKind.i64.wrap (IntKind.i64.wrap (IntKind.i64.wrap (x1 - x0) * IntKind.i64.wrap (y2 - y0)) - IntKind.i64.wrap (IntKind.i64.wrap (y1 - y0) * IntKind.i64.wrap (x2 - x0))) = n
  cases decide (n < 0) <;> cases decide (n > 0) <;> rfl
def resTurn : List F → F | [.agg [.int .i64 a, .int .i64 b], .agg [.int .i64 c, .int .i64 d], .agg [.int .i64 e, .int .i64 f]] => .int .i64 (turnV a b c d e f) | _ => .dflt
theorem okTurn : PureOK Try.prog 101 pre3p resTurn :=
  fn_pure (c := bodyOf Try.f101) Try.func101 (by kernel_rfl) (by kernel_rfl) fun xs hp => match xs, hp with
  | [.agg [.int .i64 a, .int .i64 b], .agg [.int .i64 c, .int .i64 d], .agg [.int .i64 e, .int .i64 f]], hp => t101 a b c d e f _ (turnV_spec a b c d e f)
def envW1 : Env := ((((((env0.add 94 (.pure pre3i resIn)).add 59 (.pure pre3i resIn)).add 127 (.pure pre2p resLess)).add 112 (.pure pre2p resCmp)).add 104 (.pure pre1i resSign)).add 105 (.pure pre3p resCross)).add 101 (.pure pre3p resTurn)
theorem envW1_ok : EnvOK Try.prog envW1 := Env.add_ok (Env.add_ok (Env.add_ok (Env.add_ok (Env.add_ok (Env.add_ok (Env.add_ok env0_ok okIn.sp) okWithin.sp) okLess.sp) okCmp.sp) okSign.sp) okCross.sp) okTurn.sp
end Go.Proofs.Ytjbilidfnfnpfaa.R
