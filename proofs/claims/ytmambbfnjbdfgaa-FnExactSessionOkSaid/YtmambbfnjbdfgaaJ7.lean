/-
  The own walk and what it shows, part 7 of 9.
-/
import Derived.Test.YtmambbfnjbdfgaaJ1
import Derived.Test.YtmambbfnjbdfgaaJ2
import Derived.Test.YtmambbfnjbdfgaaJ3
import Derived.Test.YtmambbfnjbdfgaaJ4
import Derived.Test.YtmambbfnjbdfgaaJ5
import Derived.Test.YtmambbfnjbdfgaaJ6
set_option exponentiation.threshold 30000
namespace Go.Proofs.Ytmambbfnjbdfgaa.R
open Go
noncomputable section
set_option linter.unusedVariables false
set_option linter.unusedSimpArgs false
set_option maxRecDepth 100000
set_option maxHeartbeats 1000000
/-! ### function 54 -/
def T54 {ρ : Type} (ret : (F) → Option ρ) (x0 : Int) (y0 : Int) (x1 : Int) (y1 : Int) (u0 : Int) (v0 : Int) (u1 : Int) (v1 : Int) : Option ρ :=
 (bsel ((turnV x0 y0 x1 y1 u0 v0 == 0) == true)
 (bsel (turnV x0 y0 x1 y1 u1 v1 == 0)
 (bsel (lessV x0 y0 u0 v0)
 (bsel (lessV u1 v1 x1 y1)
 (bsel (lessV u1 v1 u0 v0)
 (ret (F.tup [F.int .i64 0, F.agg [F.bool false, F.sl 0 fun x ↦ F.bool false, F.bool false, F.sl 0 fun x ↦ F.bool false, F.bool false, F.sl 0 fun x ↦ F.bool false], F.agg [F.bool false, F.sl 0 fun x ↦ F.bool false, F.bool false, F.sl 0 fun x ↦ F.bool false, F.bool false, F.sl 0 fun x ↦ F.bool false]]))
 (bsel (u0 == u1 && (v0 == v1 && true))
 (bsel (isI64 u0 && isI64 v0)
 (ret (F.tup [F.int .i64 1, l3pF u0 v0 1, F.agg [F.bool false, F.sl 0 fun x ↦ F.bool false, F.bool false, F.sl 0 fun x ↦ F.bool false, F.bool false, F.sl 0 fun x ↦ F.bool false]]))
 none)
 (bsel (isI64 u0 && isI64 v0)
 (bsel (isI64 u1 && isI64 v1)
 (ret (F.tup [F.int .i64 2, l3pF u0 v0 1, l3pF u1 v1 1]))
 none)
 none)))
 (bsel (lessV x1 y1 u0 v0)
 (ret (F.tup [F.int .i64 0, F.agg [F.bool false, F.sl 0 fun x ↦ F.bool false, F.bool false, F.sl 0 fun x ↦ F.bool false, F.bool false, F.sl 0 fun x ↦ F.bool false], F.agg [F.bool false, F.sl 0 fun x ↦ F.bool false, F.bool false, F.sl 0 fun x ↦ F.bool false, F.bool false, F.sl 0 fun x ↦ F.bool false]]))
 (bsel (u0 == x1 && (v0 == y1 && true))
 (bsel (isI64 u0 && isI64 v0)
 (ret (F.tup [F.int .i64 1, l3pF u0 v0 1, F.agg [F.bool false, F.sl 0 fun x ↦ F.bool false, F.bool false, F.sl 0 fun x ↦ F.bool false, F.bool false, F.sl 0 fun x ↦ F.bool false]]))
 none)
 (bsel (isI64 u0 && isI64 v0)
 (bsel (isI64 x1 && isI64 y1)
 (ret (F.tup [F.int .i64 2, l3pF u0 v0 1, l3pF x1 y1 1]))
 none)
 none))))
 (bsel (lessV u1 v1 x1 y1)
 (bsel (lessV u1 v1 x0 y0)
 (ret (F.tup [F.int .i64 0, F.agg [F.bool false, F.sl 0 fun x ↦ F.bool false, F.bool false, F.sl 0 fun x ↦ F.bool false, F.bool false, F.sl 0 fun x ↦ F.bool false], F.agg [F.bool false, F.sl 0 fun x ↦ F.bool false, F.bool false, F.sl 0 fun x ↦ F.bool false, F.bool false, F.sl 0 fun x ↦ F.bool false]]))
 (bsel (x0 == u1 && (y0 == v1 && true))
 (bsel (isI64 x0 && isI64 y0)
 (ret (F.tup [F.int .i64 1, l3pF x0 y0 1, F.agg [F.bool false, F.sl 0 fun x ↦ F.bool false, F.bool false, F.sl 0 fun x ↦ F.bool false, F.bool false, F.sl 0 fun x ↦ F.bool false]]))
 none)
 (bsel (isI64 x0 && isI64 y0)
 (bsel (isI64 u1 && isI64 v1)
 (ret (F.tup [F.int .i64 2, l3pF x0 y0 1, l3pF u1 v1 1]))
 none)
 none)))
 (bsel (lessV x1 y1 x0 y0)
 (ret (F.tup [F.int .i64 0, F.agg [F.bool false, F.sl 0 fun x ↦ F.bool false, F.bool false, F.sl 0 fun x ↦ F.bool false, F.bool false, F.sl 0 fun x ↦ F.bool false], F.agg [F.bool false, F.sl 0 fun x ↦ F.bool false, F.bool false, F.sl 0 fun x ↦ F.bool false, F.bool false, F.sl 0 fun x ↦ F.bool false]]))
 (bsel (x0 == x1 && (y0 == y1 && true))
 (bsel (isI64 x0 && isI64 y0)
 (ret (F.tup [F.int .i64 1, l3pF x0 y0 1, F.agg [F.bool false, F.sl 0 fun x ↦ F.bool false, F.bool false, F.sl 0 fun x ↦ F.bool false, F.bool false, F.sl 0 fun x ↦ F.bool false]]))
 none)
 (bsel (isI64 x0 && isI64 y0)
 (bsel (isI64 x1 && isI64 y1)
 (ret (F.tup [F.int .i64 2, l3pF x0 y0 1, l3pF x1 y1 1]))
 none)
 none)))))
 (bsel (decide (IntKind.i64.wrap (turnV x0 y0 x1 y1 u0 v0 * turnV x0 y0 x1 y1 u1 v1) > 0) == false)
 (bsel (decide (IntKind.i64.wrap (turnV u0 v0 u1 v1 x0 y0 * turnV u0 v0 u1 v1 x1 y1) > 0))
 (ret (F.tup [F.int .i64 0, F.agg [F.bool false, F.sl 0 fun x ↦ F.bool false, F.bool false, F.sl 0 fun x ↦ F.bool false, F.bool false, F.sl 0 fun x ↦ F.bool false], F.agg [F.bool false, F.sl 0 fun x ↦ F.bool false, F.bool false, F.sl 0 fun x ↦ F.bool false, F.bool false, F.sl 0 fun x ↦ F.bool false]]))
 (bsel (isI64 (IntKind.i64.wrap (IntKind.i64.wrap (IntKind.i64.wrap (x1 - x0) * IntKind.i64.wrap (v1 - v0)) - IntKind.i64.wrap (IntKind.i64.wrap (y1 - y0) * IntKind.i64.wrap (u1 - u0)))))
 (bsel (isI64 (IntKind.i64.wrap (IntKind.i64.wrap (IntKind.i64.wrap (u0 - x0) * IntKind.i64.wrap (v1 - v0)) - IntKind.i64.wrap (IntKind.i64.wrap (v0 - y0) * IntKind.i64.wrap (u1 - u0)))))
 (bsel (isI64 x0)
 (bsel (isL1n 900 (resInt3 [F.int .i64 x0]) && isL1n 900 (l1nF (IntKind.i64.wrap (IntKind.i64.wrap (IntKind.i64.wrap (x1 - x0) * IntKind.i64.wrap (v1 - v0)) - IntKind.i64.wrap (IntKind.i64.wrap (y1 - y0) * IntKind.i64.wrap (u1 - u0))))))
 (bsel (isI64 (IntKind.i64.wrap (x1 - x0)))
 (bsel (isL1n 900 (resInt3 [F.int .i64 (IntKind.i64.wrap (x1 - x0))]) && isL1n 900 (l1nF (IntKind.i64.wrap (IntKind.i64.wrap (IntKind.i64.wrap (u0 - x0) * IntKind.i64.wrap (v1 - v0)) - IntKind.i64.wrap (IntKind.i64.wrap (v0 - y0) * IntKind.i64.wrap (u1 - u0))))))
 (bsel (isL1n 800 (resMulZ [resInt3 [F.int .i64 x0], l1nF (IntKind.i64.wrap (IntKind.i64.wrap (IntKind.i64.wrap (x1 - x0) * IntKind.i64.wrap (v1 - v0)) - IntKind.i64.wrap (IntKind.i64.wrap (y1 - y0) * IntKind.i64.wrap (u1 - u0))))]) && isL1n 800 (resMulZ [resInt3 [F.int .i64 (IntKind.i64.wrap (x1 - x0))], l1nF (IntKind.i64.wrap (IntKind.i64.wrap (IntKind.i64.wrap (u0 - x0) * IntKind.i64.wrap (v1 - v0)) - IntKind.i64.wrap (IntKind.i64.wrap (v0 - y0) * IntKind.i64.wrap (u1 - u0))))]))
 (bsel (isI64 y0)
 (bsel (isL1n 900 (resInt3 [F.int .i64 y0]) && isL1n 900 (l1nF (IntKind.i64.wrap (IntKind.i64.wrap (IntKind.i64.wrap (x1 - x0) * IntKind.i64.wrap (v1 - v0)) - IntKind.i64.wrap (IntKind.i64.wrap (y1 - y0) * IntKind.i64.wrap (u1 - u0))))))
 (bsel (isI64 (IntKind.i64.wrap (y1 - y0)))
 (bsel (isL1n 900 (resInt3 [F.int .i64 (IntKind.i64.wrap (y1 - y0))]) && isL1n 900 (l1nF (IntKind.i64.wrap (IntKind.i64.wrap (IntKind.i64.wrap (u0 - x0) * IntKind.i64.wrap (v1 - v0)) - IntKind.i64.wrap (IntKind.i64.wrap (v0 - y0) * IntKind.i64.wrap (u1 - u0))))))
 (bsel (isL1n 800 (resMulZ [resInt3 [F.int .i64 y0], l1nF (IntKind.i64.wrap (IntKind.i64.wrap (IntKind.i64.wrap (x1 - x0) * IntKind.i64.wrap (v1 - v0)) - IntKind.i64.wrap (IntKind.i64.wrap (y1 - y0) * IntKind.i64.wrap (u1 - u0))))]) && isL1n 800 (resMulZ [resInt3 [F.int .i64 (IntKind.i64.wrap (y1 - y0))], l1nF (IntKind.i64.wrap (IntKind.i64.wrap (IntKind.i64.wrap (u0 - x0) * IntKind.i64.wrap (v1 - v0)) - IntKind.i64.wrap (IntKind.i64.wrap (v0 - y0) * IntKind.i64.wrap (u1 - u0))))]))
 (bsel (isL1n 600 (l1nF (unL1n (resMulZ [resInt3 [F.int .i64 x0], l1nF (IntKind.i64.wrap (IntKind.i64.wrap (IntKind.i64.wrap (x1 - x0) * IntKind.i64.wrap (v1 - v0)) - IntKind.i64.wrap (IntKind.i64.wrap (y1 - y0) * IntKind.i64.wrap (u1 - u0))))]) + unL1n (resMulZ [resInt3 [F.int .i64 (IntKind.i64.wrap (x1 - x0))], l1nF (IntKind.i64.wrap (IntKind.i64.wrap (IntKind.i64.wrap (u0 - x0) * IntKind.i64.wrap (v1 - v0)) - IntKind.i64.wrap (IntKind.i64.wrap (v0 - y0) * IntKind.i64.wrap (u1 - u0))))]))) && isL1n 600 (l1nF (unL1n (resMulZ [resInt3 [F.int .i64 y0], l1nF (IntKind.i64.wrap (IntKind.i64.wrap (IntKind.i64.wrap (x1 - x0) * IntKind.i64.wrap (v1 - v0)) - IntKind.i64.wrap (IntKind.i64.wrap (y1 - y0) * IntKind.i64.wrap (u1 - u0))))]) + unL1n (resMulZ [resInt3 [F.int .i64 (IntKind.i64.wrap (y1 - y0))], l1nF (IntKind.i64.wrap (IntKind.i64.wrap (IntKind.i64.wrap (u0 - x0) * IntKind.i64.wrap (v1 - v0)) - IntKind.i64.wrap (IntKind.i64.wrap (v0 - y0) * IntKind.i64.wrap (u1 - u0))))]))) && isL1n 600 (l1nF (IntKind.i64.wrap (IntKind.i64.wrap (IntKind.i64.wrap (x1 - x0) * IntKind.i64.wrap (v1 - v0)) - IntKind.i64.wrap (IntKind.i64.wrap (y1 - y0) * IntKind.i64.wrap (u1 - u0))))) && isNon0 (unL1n (l1nF (IntKind.i64.wrap (IntKind.i64.wrap (IntKind.i64.wrap (x1 - x0) * IntKind.i64.wrap (v1 - v0)) - IntKind.i64.wrap (IntKind.i64.wrap (y1 - y0) * IntKind.i64.wrap (u1 - u0)))))))
 (ret (F.tup [F.int .i64 1, l3pF (mkXV (unL1n (l1nF (unL1n (resMulZ [resInt3 [F.int .i64 x0], l1nF (IntKind.i64.wrap (IntKind.i64.wrap (IntKind.i64.wrap (x1 - x0) * IntKind.i64.wrap (v1 - v0)) - IntKind.i64.wrap (IntKind.i64.wrap (y1 - y0) * IntKind.i64.wrap (u1 - u0))))]) + unL1n (resMulZ [resInt3 [F.int .i64 (IntKind.i64.wrap (x1 - x0))], l1nF (IntKind.i64.wrap (IntKind.i64.wrap (IntKind.i64.wrap (u0 - x0) * IntKind.i64.wrap (v1 - v0)) - IntKind.i64.wrap (IntKind.i64.wrap (v0 - y0) * IntKind.i64.wrap (u1 - u0))))])))) (unL1n (l1nF (unL1n (resMulZ [resInt3 [F.int .i64 y0], l1nF (IntKind.i64.wrap (IntKind.i64.wrap (IntKind.i64.wrap (x1 - x0) * IntKind.i64.wrap (v1 - v0)) - IntKind.i64.wrap (IntKind.i64.wrap (y1 - y0) * IntKind.i64.wrap (u1 - u0))))]) + unL1n (resMulZ [resInt3 [F.int .i64 (IntKind.i64.wrap (y1 - y0))], l1nF (IntKind.i64.wrap (IntKind.i64.wrap (IntKind.i64.wrap (u0 - x0) * IntKind.i64.wrap (v1 - v0)) - IntKind.i64.wrap (IntKind.i64.wrap (v0 - y0) * IntKind.i64.wrap (u1 - u0))))])))) (unL1n (l1nF (IntKind.i64.wrap (IntKind.i64.wrap (IntKind.i64.wrap (x1 - x0) * IntKind.i64.wrap (v1 - v0)) - IntKind.i64.wrap (IntKind.i64.wrap (y1 - y0) * IntKind.i64.wrap (u1 - u0))))))) (mkYV (unL1n (l1nF (unL1n (resMulZ [resInt3 [F.int .i64 x0], l1nF (IntKind.i64.wrap (IntKind.i64.wrap (IntKind.i64.wrap (x1 - x0) * IntKind.i64.wrap (v1 - v0)) - IntKind.i64.wrap (IntKind.i64.wrap (y1 - y0) * IntKind.i64.wrap (u1 - u0))))]) + unL1n (resMulZ [resInt3 [F.int .i64 (IntKind.i64.wrap (x1 - x0))], l1nF (IntKind.i64.wrap (IntKind.i64.wrap (IntKind.i64.wrap (u0 - x0) * IntKind.i64.wrap (v1 - v0)) - IntKind.i64.wrap (IntKind.i64.wrap (v0 - y0) * IntKind.i64.wrap (u1 - u0))))])))) (unL1n (l1nF (unL1n (resMulZ [resInt3 [F.int .i64 y0], l1nF (IntKind.i64.wrap (IntKind.i64.wrap (IntKind.i64.wrap (x1 - x0) * IntKind.i64.wrap (v1 - v0)) - IntKind.i64.wrap (IntKind.i64.wrap (y1 - y0) * IntKind.i64.wrap (u1 - u0))))]) + unL1n (resMulZ [resInt3 [F.int .i64 (IntKind.i64.wrap (y1 - y0))], l1nF (IntKind.i64.wrap (IntKind.i64.wrap (IntKind.i64.wrap (u0 - x0) * IntKind.i64.wrap (v1 - v0)) - IntKind.i64.wrap (IntKind.i64.wrap (v0 - y0) * IntKind.i64.wrap (u1 - u0))))])))) (unL1n (l1nF (IntKind.i64.wrap (IntKind.i64.wrap (IntKind.i64.wrap (x1 - x0) * IntKind.i64.wrap (v1 - v0)) - IntKind.i64.wrap (IntKind.i64.wrap (y1 - y0) * IntKind.i64.wrap (u1 - u0))))))) (mkWV (unL1n (l1nF (unL1n (resMulZ [resInt3 [F.int .i64 x0], l1nF (IntKind.i64.wrap (IntKind.i64.wrap (IntKind.i64.wrap (x1 - x0) * IntKind.i64.wrap (v1 - v0)) - IntKind.i64.wrap (IntKind.i64.wrap (y1 - y0) * IntKind.i64.wrap (u1 - u0))))]) + unL1n (resMulZ [resInt3 [F.int .i64 (IntKind.i64.wrap (x1 - x0))], l1nF (IntKind.i64.wrap (IntKind.i64.wrap (IntKind.i64.wrap (u0 - x0) * IntKind.i64.wrap (v1 - v0)) - IntKind.i64.wrap (IntKind.i64.wrap (v0 - y0) * IntKind.i64.wrap (u1 - u0))))])))) (unL1n (l1nF (unL1n (resMulZ [resInt3 [F.int .i64 y0], l1nF (IntKind.i64.wrap (IntKind.i64.wrap (IntKind.i64.wrap (x1 - x0) * IntKind.i64.wrap (v1 - v0)) - IntKind.i64.wrap (IntKind.i64.wrap (y1 - y0) * IntKind.i64.wrap (u1 - u0))))]) + unL1n (resMulZ [resInt3 [F.int .i64 (IntKind.i64.wrap (y1 - y0))], l1nF (IntKind.i64.wrap (IntKind.i64.wrap (IntKind.i64.wrap (u0 - x0) * IntKind.i64.wrap (v1 - v0)) - IntKind.i64.wrap (IntKind.i64.wrap (v0 - y0) * IntKind.i64.wrap (u1 - u0))))])))) (unL1n (l1nF (IntKind.i64.wrap (IntKind.i64.wrap (IntKind.i64.wrap (x1 - x0) * IntKind.i64.wrap (v1 - v0)) - IntKind.i64.wrap (IntKind.i64.wrap (y1 - y0) * IntKind.i64.wrap (u1 - u0))))))), F.agg [F.bool false, F.sl 0 fun x ↦ F.bool false, F.bool false, F.sl 0 fun x ↦ F.bool false, F.bool false, F.sl 0 fun x ↦ F.bool false]]))
 none)
 none)
 none)
 none)
 none)
 none)
 none)
 none)
 none)
 none)
 none)
 none)
 none))
 (ret (F.tup [F.int .i64 0, F.agg [F.bool false, F.sl 0 fun x ↦ F.bool false, F.bool false, F.sl 0 fun x ↦ F.bool false, F.bool false, F.sl 0 fun x ↦ F.bool false], F.agg [F.bool false, F.sl 0 fun x ↦ F.bool false, F.bool false, F.sl 0 fun x ↦ F.bool false, F.bool false, F.sl 0 fun x ↦ F.bool false]]))))
 (bsel (decide (IntKind.i64.wrap (turnV x0 y0 x1 y1 u0 v0 * turnV x0 y0 x1 y1 u1 v1) > 0) == false)
 (bsel (decide (IntKind.i64.wrap (turnV u0 v0 u1 v1 x0 y0 * turnV u0 v0 u1 v1 x1 y1) > 0))
 (ret (F.tup [F.int .i64 0, F.agg [F.bool false, F.sl 0 fun x ↦ F.bool false, F.bool false, F.sl 0 fun x ↦ F.bool false, F.bool false, F.sl 0 fun x ↦ F.bool false], F.agg [F.bool false, F.sl 0 fun x ↦ F.bool false, F.bool false, F.sl 0 fun x ↦ F.bool false, F.bool false, F.sl 0 fun x ↦ F.bool false]]))
 (bsel (isI64 (IntKind.i64.wrap (IntKind.i64.wrap (IntKind.i64.wrap (x1 - x0) * IntKind.i64.wrap (v1 - v0)) - IntKind.i64.wrap (IntKind.i64.wrap (y1 - y0) * IntKind.i64.wrap (u1 - u0)))))
 (bsel (isI64 (IntKind.i64.wrap (IntKind.i64.wrap (IntKind.i64.wrap (u0 - x0) * IntKind.i64.wrap (v1 - v0)) - IntKind.i64.wrap (IntKind.i64.wrap (v0 - y0) * IntKind.i64.wrap (u1 - u0)))))
 (bsel (isI64 x0)
 (bsel (isL1n 900 (resInt3 [F.int .i64 x0]) && isL1n 900 (l1nF (IntKind.i64.wrap (IntKind.i64.wrap (IntKind.i64.wrap (x1 - x0) * IntKind.i64.wrap (v1 - v0)) - IntKind.i64.wrap (IntKind.i64.wrap (y1 - y0) * IntKind.i64.wrap (u1 - u0))))))
 (bsel (isI64 (IntKind.i64.wrap (x1 - x0)))
 (bsel (isL1n 900 (resInt3 [F.int .i64 (IntKind.i64.wrap (x1 - x0))]) && isL1n 900 (l1nF (IntKind.i64.wrap (IntKind.i64.wrap (IntKind.i64.wrap (u0 - x0) * IntKind.i64.wrap (v1 - v0)) - IntKind.i64.wrap (IntKind.i64.wrap (v0 - y0) * IntKind.i64.wrap (u1 - u0))))))
 (bsel (isL1n 800 (resMulZ [resInt3 [F.int .i64 x0], l1nF (IntKind.i64.wrap (IntKind.i64.wrap (IntKind.i64.wrap (x1 - x0) * IntKind.i64.wrap (v1 - v0)) - IntKind.i64.wrap (IntKind.i64.wrap (y1 - y0) * IntKind.i64.wrap (u1 - u0))))]) && isL1n 800 (resMulZ [resInt3 [F.int .i64 (IntKind.i64.wrap (x1 - x0))], l1nF (IntKind.i64.wrap (IntKind.i64.wrap (IntKind.i64.wrap (u0 - x0) * IntKind.i64.wrap (v1 - v0)) - IntKind.i64.wrap (IntKind.i64.wrap (v0 - y0) * IntKind.i64.wrap (u1 - u0))))]))
 (bsel (isI64 y0)
 (bsel (isL1n 900 (resInt3 [F.int .i64 y0]) && isL1n 900 (l1nF (IntKind.i64.wrap (IntKind.i64.wrap (IntKind.i64.wrap (x1 - x0) * IntKind.i64.wrap (v1 - v0)) - IntKind.i64.wrap (IntKind.i64.wrap (y1 - y0) * IntKind.i64.wrap (u1 - u0))))))
 (bsel (isI64 (IntKind.i64.wrap (y1 - y0)))
 (bsel (isL1n 900 (resInt3 [F.int .i64 (IntKind.i64.wrap (y1 - y0))]) && isL1n 900 (l1nF (IntKind.i64.wrap (IntKind.i64.wrap (IntKind.i64.wrap (u0 - x0) * IntKind.i64.wrap (v1 - v0)) - IntKind.i64.wrap (IntKind.i64.wrap (v0 - y0) * IntKind.i64.wrap (u1 - u0))))))
 (bsel (isL1n 800 (resMulZ [resInt3 [F.int .i64 y0], l1nF (IntKind.i64.wrap (IntKind.i64.wrap (IntKind.i64.wrap (x1 - x0) * IntKind.i64.wrap (v1 - v0)) - IntKind.i64.wrap (IntKind.i64.wrap (y1 - y0) * IntKind.i64.wrap (u1 - u0))))]) && isL1n 800 (resMulZ [resInt3 [F.int .i64 (IntKind.i64.wrap (y1 - y0))], l1nF (IntKind.i64.wrap (IntKind.i64.wrap (IntKind.i64.wrap (u0 - x0) * IntKind.i64.wrap (v1 - v0)) - IntKind.i64.wrap (IntKind.i64.wrap (v0 - y0) * IntKind.i64.wrap (u1 - u0))))]))
 (bsel (isL1n 600 (l1nF (unL1n (resMulZ [resInt3 [F.int .i64 x0], l1nF (IntKind.i64.wrap (IntKind.i64.wrap (IntKind.i64.wrap (x1 - x0) * IntKind.i64.wrap (v1 - v0)) - IntKind.i64.wrap (IntKind.i64.wrap (y1 - y0) * IntKind.i64.wrap (u1 - u0))))]) + unL1n (resMulZ [resInt3 [F.int .i64 (IntKind.i64.wrap (x1 - x0))], l1nF (IntKind.i64.wrap (IntKind.i64.wrap (IntKind.i64.wrap (u0 - x0) * IntKind.i64.wrap (v1 - v0)) - IntKind.i64.wrap (IntKind.i64.wrap (v0 - y0) * IntKind.i64.wrap (u1 - u0))))]))) && isL1n 600 (l1nF (unL1n (resMulZ [resInt3 [F.int .i64 y0], l1nF (IntKind.i64.wrap (IntKind.i64.wrap (IntKind.i64.wrap (x1 - x0) * IntKind.i64.wrap (v1 - v0)) - IntKind.i64.wrap (IntKind.i64.wrap (y1 - y0) * IntKind.i64.wrap (u1 - u0))))]) + unL1n (resMulZ [resInt3 [F.int .i64 (IntKind.i64.wrap (y1 - y0))], l1nF (IntKind.i64.wrap (IntKind.i64.wrap (IntKind.i64.wrap (u0 - x0) * IntKind.i64.wrap (v1 - v0)) - IntKind.i64.wrap (IntKind.i64.wrap (v0 - y0) * IntKind.i64.wrap (u1 - u0))))]))) && isL1n 600 (l1nF (IntKind.i64.wrap (IntKind.i64.wrap (IntKind.i64.wrap (x1 - x0) * IntKind.i64.wrap (v1 - v0)) - IntKind.i64.wrap (IntKind.i64.wrap (y1 - y0) * IntKind.i64.wrap (u1 - u0))))) && isNon0 (unL1n (l1nF (IntKind.i64.wrap (IntKind.i64.wrap (IntKind.i64.wrap (x1 - x0) * IntKind.i64.wrap (v1 - v0)) - IntKind.i64.wrap (IntKind.i64.wrap (y1 - y0) * IntKind.i64.wrap (u1 - u0)))))))
 (ret (F.tup [F.int .i64 1, l3pF (mkXV (unL1n (l1nF (unL1n (resMulZ [resInt3 [F.int .i64 x0], l1nF (IntKind.i64.wrap (IntKind.i64.wrap (IntKind.i64.wrap (x1 - x0) * IntKind.i64.wrap (v1 - v0)) - IntKind.i64.wrap (IntKind.i64.wrap (y1 - y0) * IntKind.i64.wrap (u1 - u0))))]) + unL1n (resMulZ [resInt3 [F.int .i64 (IntKind.i64.wrap (x1 - x0))], l1nF (IntKind.i64.wrap (IntKind.i64.wrap (IntKind.i64.wrap (u0 - x0) * IntKind.i64.wrap (v1 - v0)) - IntKind.i64.wrap (IntKind.i64.wrap (v0 - y0) * IntKind.i64.wrap (u1 - u0))))])))) (unL1n (l1nF (unL1n (resMulZ [resInt3 [F.int .i64 y0], l1nF (IntKind.i64.wrap (IntKind.i64.wrap (IntKind.i64.wrap (x1 - x0) * IntKind.i64.wrap (v1 - v0)) - IntKind.i64.wrap (IntKind.i64.wrap (y1 - y0) * IntKind.i64.wrap (u1 - u0))))]) + unL1n (resMulZ [resInt3 [F.int .i64 (IntKind.i64.wrap (y1 - y0))], l1nF (IntKind.i64.wrap (IntKind.i64.wrap (IntKind.i64.wrap (u0 - x0) * IntKind.i64.wrap (v1 - v0)) - IntKind.i64.wrap (IntKind.i64.wrap (v0 - y0) * IntKind.i64.wrap (u1 - u0))))])))) (unL1n (l1nF (IntKind.i64.wrap (IntKind.i64.wrap (IntKind.i64.wrap (x1 - x0) * IntKind.i64.wrap (v1 - v0)) - IntKind.i64.wrap (IntKind.i64.wrap (y1 - y0) * IntKind.i64.wrap (u1 - u0))))))) (mkYV (unL1n (l1nF (unL1n (resMulZ [resInt3 [F.int .i64 x0], l1nF (IntKind.i64.wrap (IntKind.i64.wrap (IntKind.i64.wrap (x1 - x0) * IntKind.i64.wrap (v1 - v0)) - IntKind.i64.wrap (IntKind.i64.wrap (y1 - y0) * IntKind.i64.wrap (u1 - u0))))]) + unL1n (resMulZ [resInt3 [F.int .i64 (IntKind.i64.wrap (x1 - x0))], l1nF (IntKind.i64.wrap (IntKind.i64.wrap (IntKind.i64.wrap (u0 - x0) * IntKind.i64.wrap (v1 - v0)) - IntKind.i64.wrap (IntKind.i64.wrap (v0 - y0) * IntKind.i64.wrap (u1 - u0))))])))) (unL1n (l1nF (unL1n (resMulZ [resInt3 [F.int .i64 y0], l1nF (IntKind.i64.wrap (IntKind.i64.wrap (IntKind.i64.wrap (x1 - x0) * IntKind.i64.wrap (v1 - v0)) - IntKind.i64.wrap (IntKind.i64.wrap (y1 - y0) * IntKind.i64.wrap (u1 - u0))))]) + unL1n (resMulZ [resInt3 [F.int .i64 (IntKind.i64.wrap (y1 - y0))], l1nF (IntKind.i64.wrap (IntKind.i64.wrap (IntKind.i64.wrap (u0 - x0) * IntKind.i64.wrap (v1 - v0)) - IntKind.i64.wrap (IntKind.i64.wrap (v0 - y0) * IntKind.i64.wrap (u1 - u0))))])))) (unL1n (l1nF (IntKind.i64.wrap (IntKind.i64.wrap (IntKind.i64.wrap (x1 - x0) * IntKind.i64.wrap (v1 - v0)) - IntKind.i64.wrap (IntKind.i64.wrap (y1 - y0) * IntKind.i64.wrap (u1 - u0))))))) (mkWV (unL1n (l1nF (unL1n (resMulZ [resInt3 [F.int .i64 x0], l1nF (IntKind.i64.wrap (IntKind.i64.wrap (IntKind.i64.wrap (x1 - x0) * IntKind.i64.wrap (v1 - v0)) - IntKind.i64.wrap (IntKind.i64.wrap (y1 - y0) * IntKind.i64.wrap (u1 - u0))))]) + unL1n (resMulZ [resInt3 [F.int .i64 (IntKind.i64.wrap (x1 - x0))], l1nF (IntKind.i64.wrap (IntKind.i64.wrap (IntKind.i64.wrap (u0 - x0) * IntKind.i64.wrap (v1 - v0)) - IntKind.i64.wrap (IntKind.i64.wrap (v0 - y0) * IntKind.i64.wrap (u1 - u0))))])))) (unL1n (l1nF (unL1n (resMulZ [resInt3 [F.int .i64 y0], l1nF (IntKind.i64.wrap (IntKind.i64.wrap (IntKind.i64.wrap (x1 - x0) * IntKind.i64.wrap (v1 - v0)) - IntKind.i64.wrap (IntKind.i64.wrap (y1 - y0) * IntKind.i64.wrap (u1 - u0))))]) + unL1n (resMulZ [resInt3 [F.int .i64 (IntKind.i64.wrap (y1 - y0))], l1nF (IntKind.i64.wrap (IntKind.i64.wrap (IntKind.i64.wrap (u0 - x0) * IntKind.i64.wrap (v1 - v0)) - IntKind.i64.wrap (IntKind.i64.wrap (v0 - y0) * IntKind.i64.wrap (u1 - u0))))])))) (unL1n (l1nF (IntKind.i64.wrap (IntKind.i64.wrap (IntKind.i64.wrap (x1 - x0) * IntKind.i64.wrap (v1 - v0)) - IntKind.i64.wrap (IntKind.i64.wrap (y1 - y0) * IntKind.i64.wrap (u1 - u0))))))), F.agg [F.bool false, F.sl 0 fun x ↦ F.bool false, F.bool false, F.sl 0 fun x ↦ F.bool false, F.bool false, F.sl 0 fun x ↦ F.bool false]]))
 none)
 none)
 none)
 none)
 none)
 none)
 none)
 none)
 none)
 none)
 none)
 none)
 none))
 (ret (F.tup [F.int .i64 0, F.agg [F.bool false, F.sl 0 fun x ↦ F.bool false, F.bool false, F.sl 0 fun x ↦ F.bool false, F.bool false, F.sl 0 fun x ↦ F.bool false], F.agg [F.bool false, F.sl 0 fun x ↦ F.bool false, F.bool false, F.sl 0 fun x ↦ F.bool false, F.bool false, F.sl 0 fun x ↦ F.bool false]]))))
def G54 (x0 : Int) (y0 : Int) (x1 : Int) (y1 : Int) (u0 : Int) (v0 : Int) (u1 : Int) (v1 : Int) : Option (F) := T54 some x0 y0 x1 y1 u0 v0 u1 v1
theorem t54 (x0 : Int) (y0 : Int) (x1 : Int) (y1 : Int) (u0 : Int) (v0 : Int) (u1 : Int) (v1 : Int) (r : F) (h : G54 x0 y0 x1 y1 u0 v0 u1 v1 = some r) : Ends Try.prog Try.f54.results.toList [.code (bodyOf Try.f54)] (start Try.f54.ntmps ([F.agg [F.int .i64 x0, F.int .i64 y0, F.int .i64 x1, F.int .i64 y1], F.agg [F.int .i64 u0, F.int .i64 v0, F.int .i64 u1, F.int .i64 v1]].map .f)) (r) := by
  refine Ends.of_run tyOK envH4a_ok (T := []) (n := 200) ?_
  have e : run Try.prog (tiOf Try.prog) envH4a [] 0 Try.f54.results.toList some 200 [.code (bodyOf Try.f54)] (start Try.f54.ntmps ([F.agg [F.int .i64 x0, F.int .i64 y0, F.int .i64 x1, F.int .i64 y1], F.agg [F.int .i64 u0, F.int .i64 v0, F.int .i64 u1, F.int .i64 v1]].map .f)) = T54 (fun r => some (.ret (r))) x0 y0 x1 y1 u0 v0 u1 v1 := by kernel_rfl
  rw [e]
  exact (good_sel h (fun _ h => (good_sel h (fun _ h => (good_sel h (fun _ h => (good_sel h (fun _ h => (good_sel h (fun _ h => good_ret (by cases h; rfl)) (fun _ h => (good_sel h (fun _ h => (good_sel h (fun _ h => good_ret (by cases h; rfl)) (fun _ h => nomatch h))) (fun _ h => (good_sel h (fun _ h => (good_sel h (fun _ h => good_ret (by cases h; rfl)) (fun _ h => nomatch h))) (fun _ h => nomatch h))))))) (fun _ h => (good_sel h (fun _ h => good_ret (by cases h; rfl)) (fun _ h => (good_sel h (fun _ h => (good_sel h (fun _ h => good_ret (by cases h; rfl)) (fun _ h => nomatch h))) (fun _ h => (good_sel h (fun _ h => (good_sel h (fun _ h => good_ret (by cases h; rfl)) (fun _ h => nomatch h))) (fun _ h => nomatch h))))))))) (fun _ h => (good_sel h (fun _ h => (good_sel h (fun _ h => good_ret (by cases h; rfl)) (fun _ h => (good_sel h (fun _ h => (good_sel h (fun _ h => good_ret (by cases h; rfl)) (fun _ h => nomatch h))) (fun _ h => (good_sel h (fun _ h => (good_sel h (fun _ h => good_ret (by cases h; rfl)) (fun _ h => nomatch h))) (fun _ h => nomatch h))))))) (fun _ h => (good_sel h (fun _ h => good_ret (by cases h; rfl)) (fun _ h => (good_sel h (fun _ h => (good_sel h (fun _ h => good_ret (by cases h; rfl)) (fun _ h => nomatch h))) (fun _ h => (good_sel h (fun _ h => (good_sel h (fun _ h => good_ret (by cases h; rfl)) (fun _ h => nomatch h))) (fun _ h => nomatch h))))))))))) (fun _ h => (good_sel h (fun _ h => (good_sel h (fun _ h => good_ret (by cases h; rfl)) (fun _ h => (good_sel h (fun _ h => (good_sel h (fun _ h => (good_sel h (fun _ h => (good_sel h (fun _ h => (good_sel h (fun _ h => (good_sel h (fun _ h => (good_sel h (fun _ h => (good_sel h (fun _ h => (good_sel h (fun _ h => (good_sel h (fun _ h => (good_sel h (fun _ h => (good_sel h (fun _ h => (good_sel h (fun _ h => good_ret (by cases h; rfl)) (fun _ h => nomatch h))) (fun _ h => nomatch h))) (fun _ h => nomatch h))) (fun _ h => nomatch h))) (fun _ h => nomatch h))) (fun _ h => nomatch h))) (fun _ h => nomatch h))) (fun _ h => nomatch h))) (fun _ h => nomatch h))) (fun _ h => nomatch h))) (fun _ h => nomatch h))) (fun _ h => nomatch h))) (fun _ h => nomatch h))))) (fun _ h => good_ret (by cases h; rfl)))))) (fun _ h => (good_sel h (fun _ h => (good_sel h (fun _ h => good_ret (by cases h; rfl)) (fun _ h => (good_sel h (fun _ h => (good_sel h (fun _ h => (good_sel h (fun _ h => (good_sel h (fun _ h => (good_sel h (fun _ h => (good_sel h (fun _ h => (good_sel h (fun _ h => (good_sel h (fun _ h => (good_sel h (fun _ h => (good_sel h (fun _ h => (good_sel h (fun _ h => (good_sel h (fun _ h => (good_sel h (fun _ h => good_ret (by cases h; rfl)) (fun _ h => nomatch h))) (fun _ h => nomatch h))) (fun _ h => nomatch h))) (fun _ h => nomatch h))) (fun _ h => nomatch h))) (fun _ h => nomatch h))) (fun _ h => nomatch h))) (fun _ h => nomatch h))) (fun _ h => nomatch h))) (fun _ h => nomatch h))) (fun _ h => nomatch h))) (fun _ h => nomatch h))) (fun _ h => nomatch h))))) (fun _ h => good_ret (by cases h; rfl)))))
theorem signV_sign (n : Int) : signV n = n.sign := by
  unfold signV
  rcases Int.lt_trichotomy n 0 with h | h | h
  · rw [decide_eq_true h, Int.sign_eq_neg_one_of_neg h]; rfl
  · subst h; rfl
  · rw [decide_eq_false (show ¬ n < 0 by omega), decide_eq_true (show n > 0 by omega), Int.sign_eq_one_of_pos h]; rfl
theorem turnV_eq {x0 y0 x1 y1 u v : Int} (h0 : spotIn x0 y0) (h1 : spotIn x1 y1) (h2 : spotIn u v) : turnV x0 y0 x1 y1 u v = (crossZ x0 y0 x1 y1 u v).sign := by
  unfold turnV
  rw [(crossW_eq h0 h1 h2).1, signV_sign]
theorem sign3 (a : Int) : (a < 0 ∧ a.sign = -1) ∨ (a = 0 ∧ a.sign = 0) ∨ (0 < a ∧ a.sign = 1) := by
  rcases Int.lt_trichotomy a 0 with h | h | h
  · exact .inl ⟨h, Int.sign_eq_neg_one_of_neg h⟩
  · subst h; exact .inr (.inl ⟨rfl, rfl⟩)
  · exact .inr (.inr ⟨h, Int.sign_eq_one_of_pos h⟩)
theorem apart_yes {a b : Int} (h : apart a b) : decide (IntKind.i64.wrap (a.sign * b.sign) > 0) = false := by
  unfold apart at h
  rcases sign3 a with ⟨k, e⟩ | ⟨k, e⟩ | ⟨k, e⟩ <;> rcases sign3 b with ⟨m, f⟩ | ⟨m, f⟩ | ⟨m, f⟩ <;> rw [e, f] <;> first | rfl | (exfalso; omega)
theorem apart_no {a b : Int} (h : ¬ apart a b) : decide (IntKind.i64.wrap (a.sign * b.sign) > 0) = true := by
  unfold apart at h
  rcases sign3 a with ⟨k, e⟩ | ⟨k, e⟩ | ⟨k, e⟩ <;> rcases sign3 b with ⟨m, f⟩ | ⟨m, f⟩ | ⟨m, f⟩ <;> rw [e, f] <;> first | rfl | (exfalso; omega)
theorem lessV_lt {a b c d : Int} : lessV a b c d = true ↔ lexLt a b c d := by
  unfold lessV lexLt
  rw [Bool.or_eq_true, Bool.and_eq_true, decide_eq_true_eq, decide_eq_true_eq, beq_iff_eq]
theorem lessV_no {a b c d : Int} : lessV a b c d = false ↔ lexLe c d a b := by
  rw [← Bool.not_eq_true, lessV_lt]
  unfold lexLt lexLe
  omega
def spans (x0 y0 x1 y1 u0 v0 u1 v1 : Int) : Prop := crossZ x0 y0 x1 y1 u0 v0 = 0 ∧ crossZ x0 y0 x1 y1 u1 v1 = 0 ∧ lexLt u0 v0 x1 y1 ∧ lexLt x0 y0 u1 v1
def kindOk (k : Int) (M S : Prop) : Prop := (k = 0 ∨ k = 1 ∨ k = 2) ∧ (k ≠ 0 ↔ M) ∧ (k = 2 ↔ S)
theorem kindOk_eq {k m : Int} {M S : Prop} (h : kindOk k M S) (g : kindOk m M S) : k = m := by
  obtain ⟨h1, h2, h3⟩ := h
  obtain ⟨g1, g2, g3⟩ := g
  by_cases hM : M <;> by_cases hS : S <;> simp only [hM, hS, iff_true, iff_false] at h2 h3 g2 g3 <;> omega
theorem kindOk_of {k : Int} {M S : Prop} (h : ∀ j, j = k → ((j = 0 ∨ j = 1 ∨ j = 2) ∧ (j ≠ 0 ↔ M) ∧ (j = 2 ↔ S))) : kindOk k M S := h k rfl
def is3 (p : F) : Prop := ∃ X Y W, FLe p (l3pF X Y W)
theorem is3_pt (X Y W : Int) : is3 (l3pF X Y W) := ⟨X, Y, W, .refl _⟩
theorem is3_zero : is3 (F.agg [F.bool false, F.sl 0 fun x ↦ F.bool false, F.bool false, F.sl 0 fun x ↦ F.bool false, F.bool false, F.sl 0 fun x ↦ F.bool false]) := ⟨_, _, _, (l3p_eqv (n := 100) (by rfl)).1⟩
def goodM (X : Option F) (M S : Prop) : Prop := ∃ k p q, X = some (F.tup [F.int .i64 k, p, q]) ∧ kindOk k M S ∧ is3 p ∧ is3 q
theorem ends3 {c e : Bool} {X Y : Option F} {M S : Prop} (h1 : c = true → goodM X M S) (h2 : c = false → goodM Y M S) : goodM (bsel c X Y) M S := by
  cases c
  · exact h2 rfl
  · exact h1 rfl
theorem good_pt {k : Int} {X Y W : Int} {M S : Prop} (h : kindOk k M S) : goodM (some (F.tup [F.int .i64 k, l3pF X Y W, F.agg [F.bool false, F.sl 0 fun x ↦ F.bool false, F.bool false, F.sl 0 fun x ↦ F.bool false, F.bool false, F.sl 0 fun x ↦ F.bool false]])) M S := ⟨_, _, _, rfl, h, is3_pt _ _ _, is3_zero⟩
theorem good_two {k : Int} {X Y W X' Y' W' : Int} {M S : Prop} (h : kindOk k M S) : goodM (some (F.tup [F.int .i64 k, l3pF X Y W, l3pF X' Y' W'])) M S := ⟨_, _, _, rfl, h, is3_pt _ _ _, is3_pt _ _ _⟩
theorem good_no {k : Int} {M S : Prop} (h : kindOk k M S) : goodM (some (F.tup [F.int .i64 k, F.agg [F.bool false, F.sl 0 fun x ↦ F.bool false, F.bool false, F.sl 0 fun x ↦ F.bool false, F.bool false, F.sl 0 fun x ↦ F.bool false], F.agg [F.bool false, F.sl 0 fun x ↦ F.bool false, F.bool false, F.sl 0 fun x ↦ F.bool false, F.bool false, F.sl 0 fun x ↦ F.bool false]])) M S := ⟨_, _, _, rfl, h, is3_zero, is3_zero⟩
theorem l4meet_col {x0 y0 x1 y1 u0 v0 u1 v1 : Int} (h0 : spotIn x0 y0) (h1 : spotIn x1 y1) (k0 : spotIn u0 v0) (k1 : spotIn u1 v1) (hs : lexLt x0 y0 x1 y1) (ht : lexLt u0 v0 u1 v1) (ha : crossZ x0 y0 x1 y1 u0 v0 = 0) (hb : crossZ x0 y0 x1 y1 u1 v1 = 0) :
    goodM (G54 x0 y0 x1 y1 u0 v0 u1 v1) (meets x0 y0 x1 y1 u0 v0 u1 v1) (spans x0 y0 x1 y1 u0 v0 u1 v1) := by
  have i : ∀ {x y : Int}, spotIn x y → isI64 x = true ∧ isI64 y = true := fun h => by
    unfold spotIn at h
    exact ⟨isI64_iff.2 (by omega), isI64_iff.2 (by omega)⟩
  have hm : meets x0 y0 x1 y1 u0 v0 u1 v1 ↔ (lexLe u0 v0 x1 y1 ∧ lexLe x0 y0 u1 v1) := by
    unfold meets
    rw [ha, hb]
    constructor
    · rintro (⟨_, _, h⟩ | ⟨h, _⟩)
      · exact h
      · exact absurd ⟨rfl, rfl⟩ h
    · exact fun h => .inl ⟨rfl, rfl, h⟩
  unfold G54 T54
  rw [turnV_eq h0 h1 k0, turnV_eq h0 h1 k1, ha, hb]
  simp only [Int.sign_zero, beq_self_eq_true, bsel_true, i h0, i h1, i k0, i k1, Bool.and_self]
  unfold lexLt at hs ht
  have hsp : spans x0 y0 x1 y1 u0 v0 u1 v1 ↔ (lexLt u0 v0 x1 y1 ∧ lexLt x0 y0 u1 v1) := by
    unfold spans
    rw [ha, hb]
    exact ⟨fun h => h.2.2, fun h => ⟨rfl, rfl, h⟩⟩
  repeat' first
    | (refine ends3 (e := true) (fun _ => ?_) (fun _ => ?_))
    | (refine good_no ?_; refine kindOk_of fun j hj => ?_; rw [hm, hsp]; clear hm hsp ha hb i h0 h1 k0 k1; simp only [lessV_lt, lessV_no, Bool.and_true, Bool.and_eq_true, Bool.and_eq_false_iff, beq_iff_eq, beq_eq_false_iff_ne, ne_eq] at *; unfold lexLe at *; unfold lexLt at *; omega)
    | (refine good_pt ?_; refine kindOk_of fun j hj => ?_; rw [hm, hsp]; clear hm hsp ha hb i h0 h1 k0 k1; simp only [lessV_lt, lessV_no, Bool.and_true, Bool.and_eq_true, Bool.and_eq_false_iff, beq_iff_eq, beq_eq_false_iff_ne, ne_eq] at *; unfold lexLe at *; unfold lexLt at *; omega)
    | (refine good_two ?_; refine kindOk_of fun j hj => ?_; rw [hm, hsp]; clear hm hsp ha hb i h0 h1 k0 k1; simp only [lessV_lt, lessV_no, Bool.and_true, Bool.and_eq_true, Bool.and_eq_false_iff, beq_iff_eq, beq_eq_false_iff_ne, ne_eq] at *; unfold lexLe at *; unfold lexLt at *; omega)
theorem sign_eq0 (a : Int) : (a.sign == 0) = (a == 0) := by
  rcases sign3 a with ⟨h, e⟩ | ⟨h, e⟩ | ⟨h, e⟩
  · rw [e, show (a == 0) = false by simp only [beq_eq_false_iff_ne, ne_eq]; omega]; rfl
  · rw [h]; rfl
  · rw [e, show (a == 0) = false by simp only [beq_eq_false_iff_ne, ne_eq]; omega]; rfl
theorem l4meet_off {x0 y0 x1 y1 u0 v0 u1 v1 : Int} (h0 : spotIn x0 y0) (h1 : spotIn x1 y1) (k0 : spotIn u0 v0) (k1 : spotIn u1 v1) (hn : ¬ (crossZ x0 y0 x1 y1 u0 v0 = 0 ∧ crossZ x0 y0 x1 y1 u1 v1 = 0))
    (ho : ¬ (apart (crossZ x0 y0 x1 y1 u0 v0) (crossZ x0 y0 x1 y1 u1 v1) ∧ apart (crossZ u0 v0 u1 v1 x0 y0) (crossZ u0 v0 u1 v1 x1 y1))) :
    goodM (G54 x0 y0 x1 y1 u0 v0 u1 v1) (meets x0 y0 x1 y1 u0 v0 u1 v1) (spans x0 y0 x1 y1 u0 v0 u1 v1) := by
  have hm : ¬ meets x0 y0 x1 y1 u0 v0 u1 v1 := by
    unfold meets
    rintro (⟨a, b, _⟩ | ⟨_, h⟩)
    · exact hn ⟨a, b⟩
    · exact ho h
  have hsp : ¬ spans x0 y0 x1 y1 u0 v0 u1 v1 := fun h => hn ⟨h.1, h.2.1⟩
  have z : kindOk 0 (meets x0 y0 x1 y1 u0 v0 u1 v1) (spans x0 y0 x1 y1 u0 v0 u1 v1) := ⟨.inl rfl, by simp [hm], by simp [hsp]⟩
  have tt : (true == true) = true := rfl
  have ft : (false == true) = false := rfl
  have tf : (true == false) = false := rfl
  have ff : (false == false) = true := rfl
  unfold G54 T54
  rw [turnV_eq h0 h1 k0, turnV_eq h0 h1 k1, turnV_eq k0 k1 h0, turnV_eq k0 k1 h1]
  simp only [sign_eq0]
  generalize crossZ x0 y0 x1 y1 u0 v0 = A at *
  generalize crossZ x0 y0 x1 y1 u1 v1 = B at *
  generalize crossZ u0 v0 u1 v1 x0 y0 = C at *
  generalize crossZ u0 v0 u1 v1 x1 y1 = D at *
  by_cases ap : apart A B
  · have cd : ¬ apart C D := fun h => ho ⟨ap, h⟩
    rw [apart_yes ap, apart_no cd]
    by_cases hA : A = 0
    · have hB : ¬ B = 0 := fun h => hn ⟨hA, h⟩
      rw [show (A == 0) = true from beq_iff_eq.2 hA, show (B == 0) = false from beq_eq_false_iff_ne.2 hB]
      simp only [tt, ff, bsel_true, bsel_false]
      exact good_no z
    · rw [show (A == 0) = false from beq_eq_false_iff_ne.2 hA]
      simp only [ft, ff, bsel_true, bsel_false]
      exact good_no z
  · rw [apart_no ap]
    by_cases hA : A = 0
    · exact absurd (show apart A B by unfold apart; omega) ap
    · rw [show (A == 0) = false from beq_eq_false_iff_ne.2 hA]
      simp only [ft, tf, bsel_true, bsel_false]
      exact good_no z
theorem mulB {a b : Int} (ha : -2000000 ≤ a ∧ a ≤ 2000000) (hb : -2000000 ≤ b ∧ b ≤ 2000000) : -8000000000000 ≤ a * b ∧ a * b ≤ 8000000000000 := by
  have := (dotW (a := a) (b := b) (c := 0) (d := 0) (by omega) (by omega) (by omega) (by omega)).2
  simp only [Int.mul_zero, Int.add_zero] at this
  exact this
theorem diffW {a b c d : Int} (ha : -2000000 ≤ a ∧ a ≤ 2000000) (hb : -2000000 ≤ b ∧ b ≤ 2000000) (hc : -2000000 ≤ c ∧ c ≤ 2000000) (hd : -2000000 ≤ d ∧ d ≤ 2000000) :
    IntKind.i64.wrap (IntKind.i64.wrap (IntKind.i64.wrap a * IntKind.i64.wrap b) - IntKind.i64.wrap (IntKind.i64.wrap c * IntKind.i64.wrap d)) = a * b - c * d ∧ isI64 (a * b - c * d) = true := by
  have m1 := mulB ha hb
  have m2 := mulB hc hd
  rw [wrapI (x := a) (by omega) (by omega), wrapI (x := b) (by omega) (by omega), wrapI (x := c) (by omega) (by omega), wrapI (x := d) (by omega) (by omega), wrapI (x := a * b) (by omega) (by omega), wrapI (x := c * d) (by omega) (by omega), wrapI (by omega) (by omega)]
  exact ⟨rfl, isI64_iff.2 (by omega)⟩
theorem l4meet_in {x0 y0 x1 y1 u0 v0 u1 v1 : Int} (h0 : spotIn x0 y0) (h1 : spotIn x1 y1) (k0 : spotIn u0 v0) (k1 : spotIn u1 v1) (hn : ¬ (crossZ x0 y0 x1 y1 u0 v0 = 0 ∧ crossZ x0 y0 x1 y1 u1 v1 = 0))
    (ho : apart (crossZ x0 y0 x1 y1 u0 v0) (crossZ x0 y0 x1 y1 u1 v1) ∧ apart (crossZ u0 v0 u1 v1 x0 y0) (crossZ u0 v0 u1 v1 x1 y1)) :
    goodM (G54 x0 y0 x1 y1 u0 v0 u1 v1) (meets x0 y0 x1 y1 u0 v0 u1 v1) (spans x0 y0 x1 y1 u0 v0 u1 v1) := by
  have hm : meets x0 y0 x1 y1 u0 v0 u1 v1 := .inr ⟨hn, ho⟩
  have hsp : ¬ spans x0 y0 x1 y1 u0 v0 u1 v1 := fun h => hn ⟨h.1, h.2.1⟩
  have z : kindOk 1 (meets x0 y0 x1 y1 u0 v0 u1 v1) (spans x0 y0 x1 y1 u0 v0 u1 v1) := ⟨.inr (.inl rfl), by simp [hm], by simp [hsp]⟩
  have tt : (true == true) = true := rfl
  have ft : (false == true) = false := rfl
  have ff : (false == false) = true := rfl
  have hden : crossZ x0 y0 x1 y1 u1 v1 - crossZ x0 y0 x1 y1 u0 v0 = (x1 - x0) * (v1 - v0) - (y1 - y0) * (u1 - u0) := by unfold crossZ; grind
  have hne : (x1 - x0) * (v1 - v0) - (y1 - y0) * (u1 - u0) ≠ 0 := by
    rw [← hden]
    have := ho.1
    unfold apart at this
    omega
  have s0 := h0
  have s1 := h1
  have t0 := k0
  have t1 := k1
  unfold spotIn at s0 s1 t0 t1
  obtain ⟨d1, d2⟩ := diffW (a := x1 - x0) (b := v1 - v0) (c := y1 - y0) (d := u1 - u0) (by omega) (by omega) (by omega) (by omega)
  obtain ⟨e1, e2⟩ := diffW (a := u0 - x0) (b := v1 - v0) (c := v0 - y0) (d := u1 - u0) (by omega) (by omega) (by omega) (by omega)
  have b2 : ∀ {w : Int}, isI64 w = true → w.natAbs < 4294967296 ^ 2 := fun h => by have := isI64_iff.1 h; omega
  have i9 : ∀ {w : Int}, isI64 w = true → isL1n 900 (l1nF w) = true := fun h => isL1n_l1nF (boundC_up (b2 h) (by omega))
  have p8 : ∀ {w r : Int}, isI64 w = true → isI64 r = true → isL1n 800 (l1nF (w * r)) = true := fun h g => isL1n_l1nF (boundC_up (boundC_mul (b2 h) (b2 g)) (by omega))
  have p6 : ∀ {w r m o : Int}, isI64 w = true → isI64 r = true → isI64 m = true → isI64 o = true → isL1n 600 (l1nF (w * r + m * o)) = true := fun h g i j => isL1n_l1nF (boundC_up (boundC_add (boundC_mul (b2 h) (b2 g)) (boundC_mul (b2 i) (b2 j))) (by omega))
  have ix : isI64 x0 = true := isI64_iff.2 (by omega)
  have iy : isI64 y0 = true := isI64_iff.2 (by omega)
  have wx : IntKind.i64.wrap (x1 - x0) = x1 - x0 := wrapI (by omega) (by omega)
  have wy : IntKind.i64.wrap (y1 - y0) = y1 - y0 := wrapI (by omega) (by omega)
  have jx : isI64 (x1 - x0) = true := isI64_iff.2 (by omega)
  have jy : isI64 (y1 - y0) = true := isI64_iff.2 (by omega)
  have r3 : ∀ n : Int, resInt3 [F.int .i64 n] = l1nF n := fun _ => rfl
  unfold G54 T54
  rw [turnV_eq h0 h1 k0, turnV_eq h0 h1 k1, turnV_eq k0 k1 h0, turnV_eq k0 k1 h1, apart_yes ho.1, apart_yes ho.2]
  simp only [sign_eq0, d1, e1]
  simp only [wx, wy, r3, resMulZ_eq, unL1n_l1nF]
  generalize (x1 - x0) * (v1 - v0) - (y1 - y0) * (u1 - u0) = dn at *
  generalize (u0 - x0) * (v1 - v0) - (v0 - y0) * (u1 - u0) = nm at *
  have nz : isNon0 dn = true := by unfold isNon0; rw [show (dn == 0) = false from beq_eq_false_iff_ne.2 hne]; rfl
  simp only [ix, iy, jx, jy, d2, e2, i9 ix, i9 iy, i9 jx, i9 jy, i9 d2, i9 e2, p8 ix d2, p8 iy d2, p8 jx e2, p8 jy e2, p6 ix d2 jx e2, p6 iy d2 jy e2, nz, isL1n_l1nF (boundC_up (b2 d2) (show 2 ≤ 600 by omega)), Bool.and_self, bsel_true, ff, bsel_false]
  by_cases hA : crossZ x0 y0 x1 y1 u0 v0 = 0
  · have hB : ¬ crossZ x0 y0 x1 y1 u1 v1 = 0 := fun h => hn ⟨hA, h⟩
    rw [show (crossZ x0 y0 x1 y1 u0 v0 == 0) = true from beq_iff_eq.2 hA, show (crossZ x0 y0 x1 y1 u1 v1 == 0) = false from beq_eq_false_iff_ne.2 hB]
    simp only [tt, ff, bsel_true, bsel_false]
    exact good_pt z
  · rw [show (crossZ x0 y0 x1 y1 u0 v0 == 0) = false from beq_eq_false_iff_ne.2 hA]
    simp only [ft, ff, bsel_true, bsel_false]
    exact good_pt z
theorem l4meet_law {x0 y0 x1 y1 u0 v0 u1 v1 : Int} (h0 : spotIn x0 y0) (h1 : spotIn x1 y1) (k0 : spotIn u0 v0) (k1 : spotIn u1 v1) (hs : lexLt x0 y0 x1 y1) (ht : lexLt u0 v0 u1 v1) :
    goodM (G54 x0 y0 x1 y1 u0 v0 u1 v1) (meets x0 y0 x1 y1 u0 v0 u1 v1) (spans x0 y0 x1 y1 u0 v0 u1 v1) := by
  by_cases hn : crossZ x0 y0 x1 y1 u0 v0 = 0 ∧ crossZ x0 y0 x1 y1 u1 v1 = 0
  · exact l4meet_col h0 h1 k0 k1 hs ht hn.1 hn.2
  · by_cases ho : apart (crossZ x0 y0 x1 y1 u0 v0) (crossZ x0 y0 x1 y1 u1 v1) ∧ apart (crossZ u0 v0 u1 v1 x0 y0) (crossZ u0 v0 u1 v1 x1 y1)
    · exact l4meet_in h0 h1 k0 k1 hn ho
    · exact l4meet_off h0 h1 k0 k1 hn ho
theorem sgOk_parts {x0 y0 x1 y1 : Int} (h : segOkV x0 y0 x1 y1 = true) : spotIn x0 y0 ∧ spotIn x1 y1 ∧ lexLt x0 y0 x1 y1 := by
  unfold segOkV at h
  simp only [Bool.and_eq_true] at h
  exact ⟨spotOk_iff.1 h.1, spotOk_iff.1 h.2.1, lessV_lt.1 h.2.2⟩
open Classical in
def of3 (p : F) : Int × Int × Int := if h : is3 p then ⟨h.choose, h.choose_spec.choose, h.choose_spec.choose_spec.choose⟩ else (0, 0, 0)
theorem of3_le {p : F} (h : is3 p) : FLe p (l3pF (of3 p).1 (of3 p).2.1 (of3 p).2.2) := by
  unfold of3
  rw [dif_pos h]
  exact h.choose_spec.choose_spec.choose_spec
def kind3V (x0 y0 x1 y1 u0 v0 u1 v1 : Int) : Int := match G54 x0 y0 x1 y1 u0 v0 u1 v1 with | some (.tup [.int _ k, _, _]) => k | _ => 0
def pick3V (i : Nat) (x0 y0 x1 y1 u0 v0 u1 v1 : Int) : Int := match G54 x0 y0 x1 y1 u0 v0 u1 v1 with | some (.tup [_, p, q]) => ([(of3 p).1, (of3 p).2.1, (of3 p).2.2, (of3 q).1, (of3 q).2.1, (of3 q).2.2] : List Int).getD i 0 | _ => 0
theorem kind3_ok {x0 y0 x1 y1 u0 v0 u1 v1 : Int} (hs : segOkV x0 y0 x1 y1 = true) (ht : segOkV u0 v0 u1 v1 = true) : kindOk (kind3V x0 y0 x1 y1 u0 v0 u1 v1) (meets x0 y0 x1 y1 u0 v0 u1 v1) (spans x0 y0 x1 y1 u0 v0 u1 v1) := by
  obtain ⟨h0, h1, h2⟩ := sgOk_parts hs
  obtain ⟨k0, k1, k2⟩ := sgOk_parts ht
  obtain ⟨k, p, q, e, h, _⟩ := l4meet_law h0 h1 k0 k1 h2 k2
  unfold kind3V
  rw [e]
  exact h
def preMeet3 : List F → Bool | [.agg [.int .i64 a, .int .i64 b, .int .i64 c, .int .i64 d], .agg [.int .i64 e, .int .i64 f, .int .i64 g, .int .i64 h]] => segOkV a b c d && segOkV e f g h | _ => false
def resMeet3 : List F → F | [.agg [.int .i64 a, .int .i64 b, .int .i64 c, .int .i64 d], .agg [.int .i64 e, .int .i64 f, .int .i64 g, .int .i64 h]] => .tup [.int .i64 (kind3V a b c d e f g h), l3pF (pick3V 0 a b c d e f g h) (pick3V 1 a b c d e f g h) (pick3V 2 a b c d e f g h), l3pF (pick3V 3 a b c d e f g h) (pick3V 4 a b c d e f g h) (pick3V 5 a b c d e f g h)] | _ => .dflt
theorem okMeet3 : PureOK Try.prog 54 preMeet3 resMeet3 :=
  fn_pure_at (c := bodyOf Try.f54) Try.func54 (by kernel_rfl) (by kernel_rfl) fun xs hp => match xs, hp with
  | [.agg [.int .i64 a, .int .i64 b, .int .i64 c, .int .i64 d], .agg [.int .i64 e, .int .i64 f, .int .i64 g, .int .i64 h]], hp => by
    simp only [preMeet3, Bool.and_eq_true] at hp
    obtain ⟨h0, h1, h2⟩ := sgOk_parts hp.1
    obtain ⟨k0, k1, k2⟩ := sgOk_parts hp.2
    obtain ⟨k, p, q, ek, _, hp3, hq3⟩ := l4meet_law h0 h1 k0 k1 h2 k2
    refine ⟨[_, _], _, ⟨.refl _, .refl _, trivial⟩, t54 a b c d e f g h _ ek, ?_⟩
    show FLe _ (.tup [.int .i64 (kind3V a b c d e f g h), l3pF (pick3V 0 a b c d e f g h) (pick3V 1 a b c d e f g h) (pick3V 2 a b c d e f g h), l3pF (pick3V 3 a b c d e f g h) (pick3V 4 a b c d e f g h) (pick3V 5 a b c d e f g h)])
    have e1 : kind3V a b c d e f g h = k := by unfold kind3V; rw [ek]
    have e2 : ∀ i, pick3V i a b c d e f g h = ([(of3 p).1, (of3 p).2.1, (of3 p).2.2, (of3 q).1, (of3 q).2.1, (of3 q).2.2] : List Int).getD i 0 := fun i => by unfold pick3V; rw [ek]
    rw [e1, e2, e2, e2, e2, e2, e2]
    exact FLe.tup ⟨.refl _, of3_le hp3, of3_le hq3, trivial⟩
def envH4b : Env := envH4a.add 54 (.pure preMeet3 resMeet3)
theorem envH4b_ok : EnvOK Try.prog envH4b := (Env.add_ok envH4a_ok okMeet3.sp)
end
end Go.Proofs.Ytmambbfnjbdfgaa.R

namespace Go.Proofs.Ytmambbfnjbdfgaa.R
open Go
noncomputable section
set_option linter.unusedVariables false
set_option linter.unusedSimpArgs false
structure Pt where
  x : Int
  y : Int
def Pt.zero : Pt := ⟨0, 0⟩
def ptF (s : Pt) : F := .agg [.int .i64 s.x, .int .i64 s.y]
def isPt : F → Bool
  | .agg [.int .i64 _, .int .i64 _] => true
  | _ => false
def unPt : F → Pt
  | .agg [.int .i64 a, .int .i64 b] => ⟨a, b⟩
  | _ => .zero
def ptsF (l : List Pt) : F := slF ptF .zero l
def isPts (x : F) : Bool := isSl isPt x
def unPts (x : F) : List Pt := unSl unPt x
theorem unPts_ptsF (l : List Pt) : unPts (ptsF l) = l := unSl_slF (fun _ => rfl) l
theorem isPts_ptsF (l : List Pt) : isPts (ptsF l) = true := isSl_slF l fun _ _ => rfl
theorem pt_eq {x : F} (h : isPt x = true) : ptF (unPt x) = x := by
  unfold isPt at h
  split at h
  · rfl
  · cases h
theorem pts_eqv {x : F} (hx : isPts x = true) : FLe x (ptsF (unPts x)) ∧ FLe (ptsF (unPts x)) x := slF_eqv (fun _ h => pt_eq h) hx
theorem pt_ext {a b : Pt} (h1 : a.x = b.x) (h2 : a.y = b.y) : a = b := by
  cases a; cases b; simp only at h1 h2; rw [h1, h2]
theorem pt_eta (a : Pt) : (⟨a.x, a.y⟩ : Pt) = a := rfl
theorem pt_ne {a b : Pt} (h : a ≠ b) : a.x ≠ b.x ∨ a.y ≠ b.y := by
  by_cases hx : a.x = b.x
  · right; intro hy; exact h (pt_ext hx hy)
  · exact .inl hx
def allUp (f : Nat → Bool) : Nat → Nat → Bool
  | _, 0 => true
  | i, d + 1 => f i && allUp f (i + 1) d
theorem allUp_iff (f : Nat → Bool) : ∀ (d i : Nat), allUp f i d = true ↔ ∀ j, i ≤ j → j < i + d → f j = true
  | 0, i => ⟨fun _ j h1 h2 => by omega, fun _ => rfl⟩
  | d + 1, i => by
    rw [allUp, Bool.and_eq_true, allUp_iff f d (i + 1)]
    constructor
    · rintro ⟨h1, h2⟩ j h3 h4
      by_cases e : j = i
      · subst e; exact h1
      · exact h2 j (by omega) (by omega)
    · exact fun h => ⟨h i (by omega) (by omega), fun j h1 h2 => h j (by omega) (by omega)⟩
theorem allUp_cut (f : Nat → Bool) (i d : Nat) : allUp f i (d + 1) = (f i && allUp f (i + 1) d) := rfl
def legOf (a b : Pt) : Sg := bif lessV b.x b.y a.x a.y then ⟨b.x, b.y, a.x, a.y⟩ else ⟨a.x, a.y, b.x, b.y⟩
theorem leg_cases (a b : Pt) (h : a ≠ b) : (lexLt a.x a.y b.x b.y ∧ legOf a b = ⟨a.x, a.y, b.x, b.y⟩) ∨ (lexLt b.x b.y a.x a.y ∧ legOf a b = ⟨b.x, b.y, a.x, a.y⟩) := by
  unfold legOf
  cases hl : lessV b.x b.y a.x a.y with
  | true => exact .inr ⟨lessV_lt.1 hl, rfl⟩
  | false =>
    refine .inl ⟨?_, rfl⟩
    have := lessV_no.1 hl
    have := pt_ne h
    unfold lexLe at *
    unfold lexLt
    omega
def onS (s : Sg) (p : Pt) : Prop := onSg s.x0 s.y0 s.x1 s.y1 p.x p.y
def meetS (s t : Sg) : Prop := meets s.x0 s.y0 s.x1 s.y1 t.x0 t.y0 t.x1 t.y1
def riseS (s : Sg) : Prop := lexLt s.x0 s.y0 s.x1 s.y1
theorem leg_rise {a b : Pt} (h : a ≠ b) : riseS (legOf a b) := by
  unfold riseS
  rcases leg_cases a b h with ⟨h1, h2⟩ | ⟨h1, h2⟩ <;> rw [h2] <;> exact h1
theorem leg_on {a b : Pt} (h : a ≠ b) {s : Sg} (hs : riseS s) (ho : onS s a) : meetS s (legOf a b) := by
  unfold onS at ho
  unfold riseS at hs
  unfold meetS
  rcases leg_cases a b h with ⟨h1, h2⟩ | ⟨h1, h2⟩ <;> rw [h2]
  · exact on_meets hs h1 (.inl ho)
  · exact on_meets hs h1 (.inr ho)
theorem meetS_comm {s t : Sg} (hs : riseS s) (ht : riseS t) : meetS s t ↔ meetS t s := ⟨meets_comm hs ht, meets_comm ht hs⟩
end
end Go.Proofs.Ytmambbfnjbdfgaa.R

namespace Go.Proofs.Ytmambbfnjbdfgaa.R
open Go
noncomputable section
set_option linter.unusedVariables false
set_option linter.unusedSimpArgs false
set_option maxRecDepth 100000
/-! ### function 86 -/
/-! ### function 95 -/
def T95 {ρ : Type} (ret : (F) → Option ρ) (n : Int) : Option ρ :=
 (bsel (isI64 n)
 (bsel (isNum 399 (resWhole [F.int .i64 n]))
 (ret (F.agg [F.int .u64 (wd3 (unNum (resWhole [F.int .i64 n]))), F.int .u64 (wd2 (unNum (resWhole [F.int .i64 n]))), F.int .u64 (wd1 (unNum (resWhole [F.int .i64 n]))), F.int .u64 (wd0 (unNum (resWhole [F.int .i64 n])))]))
 none)
 none)
def G95 (n : Int) : Option (F) := T95 some n
theorem t95 (n : Int) (r : F) (h : G95 n = some r) : Ends Try.prog Try.f95.results.toList [.code (bodyOf Try.f95)] (start Try.f95.ntmps ([F.int .i64 n].map .f)) (r) := by
  refine Ends.of_run tyOK envH4b_ok (T := []) (n := 200) ?_
  have e : run Try.prog (tiOf Try.prog) envH4b [] 0 Try.f95.results.toList some 200 [.code (bodyOf Try.f95)] (start Try.f95.ntmps ([F.int .i64 n].map .f)) = T95 (fun r => some (.ret (r))) n := by kernel_rfl
  rw [e]
  exact (good_sel h (fun _ h => (good_sel h (fun _ h => good_ret (by cases h; rfl)) (fun _ h => nomatch h))) (fun _ h => nomatch h))
theorem wideOf_law {n : Int} (h : isI64 n = true) : G95 n = some (wideF n) := by
  have r : resWhole [F.int .i64 n] = numF n := rfl
  have hn : n.natAbs < 18446744073709551616 ^ 1 := by have := isI64_iff.1 h; omega
  unfold G95 T95
  rw [r, h, isNum_numF (bound_up hn (show 1 ≤ 399 by omega)), unNum_numF]
  rfl
def resWideOf : List F → F | [.int .i64 n] => wideF n | _ => .dflt
theorem okWideOf : PureOK Try.prog 95 preI64 resWideOf :=
  fn_pure (c := bodyOf Try.f95) Try.func95 (by kernel_rfl) (by kernel_rfl) fun xs hp => match xs, hp with
  | [.int .i64 n], hp => t95 n _ (wideOf_law hp)
/-! ### function 58 -/
def T58 {ρ : Type} (ret : (F) → Option ρ) (x0 : Int) (y0 : Int) (x1 : Int) (y1 : Int) : Option ρ :=
 (bsel (decide (cmpV x0 y0 x1 y1 > 0))
 (ret (F.agg [F.int .i64 x1, F.int .i64 y1, F.int .i64 x0, F.int .i64 y0]))
 (ret (F.agg [F.int .i64 x0, F.int .i64 y0, F.int .i64 x1, F.int .i64 y1])))
def G58 (x0 : Int) (y0 : Int) (x1 : Int) (y1 : Int) : Option (F) := T58 some x0 y0 x1 y1
theorem t58 (x0 : Int) (y0 : Int) (x1 : Int) (y1 : Int) (r : F) (h : G58 x0 y0 x1 y1 = some r) : Ends Try.prog Try.f58.results.toList [.code (bodyOf Try.f58)] (start Try.f58.ntmps ([F.agg [F.int .i64 x0, F.int .i64 y0], F.agg [F.int .i64 x1, F.int .i64 y1]].map .f)) (r) := by
  refine Ends.of_run tyOK envH4b_ok (T := []) (n := 200) ?_
  have e : run Try.prog (tiOf Try.prog) envH4b [] 0 Try.f58.results.toList some 200 [.code (bodyOf Try.f58)] (start Try.f58.ntmps ([F.agg [F.int .i64 x0, F.int .i64 y0], F.agg [F.int .i64 x1, F.int .i64 y1]].map .f)) = T58 (fun r => some (.ret (r))) x0 y0 x1 y1 := by kernel_rfl
  rw [e]
  exact (good_sel h (fun _ h => good_ret (by cases h; rfl)) (fun _ h => good_ret (by cases h; rfl)))
theorem cmpV_pos (x0 y0 x1 y1 : Int) : decide (cmpV x0 y0 x1 y1 > 0) = lessV x1 y1 x0 y0 := by
  unfold cmpV
  cases h1 : (x0 == x1 && y0 == y1) with
  | true =>
    simp only [Bool.and_eq_true, beq_iff_eq] at h1
    cases h2 : lessV x1 y1 x0 y0 with
    | false => rfl
    | true =>
      have := lessV_lt.1 h2
      unfold lexLt at this
      omega
  | false =>
    have hn : ¬ (x0 = x1 ∧ y0 = y1) := fun ⟨e1, e2⟩ => by rw [e1, e2, beq_self_eq_true, beq_self_eq_true] at h1; cases h1
    cases h2 : lessV x0 y0 x1 y1 <;> cases h3 : lessV x1 y1 x0 y0 <;> first | rfl | skip
    · have h2 := lessV_no.1 h2
      have h3 := lessV_no.1 h3
      unfold lexLe at h2 h3
      omega
    · have h2 := lessV_lt.1 h2
      have h3 := lessV_lt.1 h3
      unfold lexLt at h2 h3
      omega
def resLeg : List F → F | [.agg [.int .i64 a, .int .i64 b], .agg [.int .i64 c, .int .i64 d]] => sgF (legOf ⟨a, b⟩ ⟨c, d⟩) | _ => .dflt
theorem okLeg : PureOK Try.prog 58 pre2p resLeg :=
  fn_pure (c := bodyOf Try.f58) Try.func58 (by kernel_rfl) (by kernel_rfl) fun xs hp => match xs, hp with
  | [.agg [.int .i64 a, .int .i64 b], .agg [.int .i64 c, .int .i64 d]], hp => t58 a b c d _ (by
      unfold G58 T58
      rw [cmpV_pos]
      show _ = some (sgF (legOf ⟨a, b⟩ ⟨c, d⟩))
      unfold legOf
      cases lessV c d a b <;> rfl)
def envH5 : Env := (envH4b.add 95 (.pure preI64 resWideOf)).add 58 (.pure pre2p resLeg)
theorem envH5_ok : EnvOK Try.prog envH5 := (Env.add_ok (Env.add_ok envH4b_ok okWideOf.sp) okLeg.sp)
end
end Go.Proofs.Ytmambbfnjbdfgaa.R

namespace Go.Proofs.Ytmambbfnjbdfgaa.R
open Go
noncomputable section
set_option linter.unusedVariables false
set_option linter.unusedSimpArgs false
set_option maxRecDepth 100000
/-! ### function 56 -/
def T56 {ρ : Type} (ret : (F) → Option ρ) (x : Int) (y : Int) : Option ρ :=
 (bsel (isI64 x)
 (bsel (isI64 y)
 (ret (F.agg [F.int .u64 (wd3 x), F.int .u64 (wd2 x), F.int .u64 (wd1 x), F.int .u64 (wd0 x), F.int .u64 (wd3 y), F.int .u64 (wd2 y), F.int .u64 (wd1 y), F.int .u64 (wd0 y), F.int .u64 (wd3 1), F.int .u64 (wd2 1), F.int .u64 (wd1 1), F.int .u64 (wd0 1)]))
 none)
 none)
def G56 (x : Int) (y : Int) : Option (F) := T56 some x y
theorem t56 (x : Int) (y : Int) (r : F) (h : G56 x y = some r) : Ends Try.prog Try.f56.results.toList [.code (bodyOf Try.f56)] (start Try.f56.ntmps ([F.agg [F.int .i64 x, F.int .i64 y]].map .f)) (r) := by
  refine Ends.of_run tyOK envH5_ok (T := []) (n := 200) ?_
  have e : run Try.prog (tiOf Try.prog) envH5 [] 0 Try.f56.results.toList some 200 [.code (bodyOf Try.f56)] (start Try.f56.ntmps ([F.agg [F.int .i64 x, F.int .i64 y]].map .f)) = T56 (fun r => some (.ret (r))) x y := by kernel_rfl
  rw [e]
  exact (good_sel h (fun _ h => (good_sel h (fun _ h => good_ret (by cases h; rfl)) (fun _ h => nomatch h))) (fun _ h => nomatch h))
def preI2 : List F → Bool | [.agg [.int .i64 x, .int .i64 y]] => isI64 x && isI64 y | _ => false
def resPtOf : List F → F | [.agg [.int .i64 x, .int .i64 y]] => .agg [.int .u64 (wd3 x), .int .u64 (wd2 x), .int .u64 (wd1 x), .int .u64 (wd0 x), .int .u64 (wd3 y), .int .u64 (wd2 y), .int .u64 (wd1 y), .int .u64 (wd0 y), .int .u64 (wd3 1), .int .u64 (wd2 1), .int .u64 (wd1 1), .int .u64 (wd0 1)] | _ => .dflt
theorem okPtOf : PureOK Try.prog 56 preI2 resPtOf :=
  fn_pure (c := bodyOf Try.f56) Try.func56 (by kernel_rfl) (by kernel_rfl) fun xs hp => match xs, hp with
  | [.agg [.int .i64 x, .int .i64 y]], hp => by
    simp only [preI2, Bool.and_eq_true] at hp
    exact t56 x y _ (by unfold G56 T56; rw [hp.1, hp.2]; rfl)
/-! ### function 131 -/
def envH6 : Env := envH5.add 56 (.pure preI2 resPtOf)
theorem envH6_ok : EnvOK Try.prog envH6 := (Env.add_ok envH5_ok okPtOf.sp)
end
end Go.Proofs.Ytmambbfnjbdfgaa.R

namespace Go.Proofs.Ytmambbfnjbdfgaa.R
open Go
noncomputable section
set_option linter.unusedVariables false
set_option linter.unusedSimpArgs false
set_option maxRecDepth 100000
set_option maxHeartbeats 1000000
theorem resBy_num (x y : Int) : resBy [numF x, numF y] = numF (x * y) := by simp only [resBy, unNum_numF]
theorem num_ok {z : Int} {n m : Nat} (h : z.natAbs < 18446744073709551616 ^ n) (hm : n ≤ m) : isNum m (numF z) = true := isNum_numF (bound_up h hm)
/-! ### function 93 -/
/-! ### function 94 -/
/-! ### function 99 -/
def T99 {ρ : Type} (ret : (F) → Option ρ) (x : Int) (y : Int) (w : Int) : Option ρ :=
 (bsel (isNum 400 (numF w))
 (bsel ((unNum (numF w)).sign == 0)
 (ret (F.tup [F.agg [F.int .u64 0, F.int .u64 0, F.int .u64 0, F.int .u64 0, F.int .u64 0, F.int .u64 0, F.int .u64 0, F.int .u64 0, F.int .u64 0, F.int .u64 0, F.int .u64 0, F.int .u64 0], F.bool false]))
 (bsel (isNums 400 (F.sl 3 (lget [numF x, numF y, numF w])) && gcdOk (unNums (F.sl 3 (lget [numF x, numF y, numF w]))))
 (bsel (decide (w < 0))
 (bsel (isNum 400 (numF (↑(gcdFrom 0 (unNums (F.sl 3 (lget [numF x, numF y, numF w])))) : Int)))
 (bsel (isNum 399 (numF x) && isNum 399 (numF (-unNum (numF (↑(gcdFrom 0 (unNums (F.sl 3 (lget [numF x, numF y, numF w])))) : Int)))) && overOk (unNum (numF x)) (unNum (numF (-unNum (numF (↑(gcdFrom 0 (unNums (F.sl 3 (lget [numF x, numF y, numF w])))) : Int))))))
 (bsel (isNum 399 (numF y) && isNum 399 (numF (-unNum (numF (↑(gcdFrom 0 (unNums (F.sl 3 (lget [numF x, numF y, numF w])))) : Int)))) && overOk (unNum (numF y)) (unNum (numF (-unNum (numF (↑(gcdFrom 0 (unNums (F.sl 3 (lget [numF x, numF y, numF w])))) : Int))))))
 (bsel (isNum 399 (numF w) && isNum 399 (numF (-unNum (numF (↑(gcdFrom 0 (unNums (F.sl 3 (lget [numF x, numF y, numF w])))) : Int)))) && overOk (unNum (numF w)) (unNum (numF (-unNum (numF (↑(gcdFrom 0 (unNums (F.sl 3 (lget [numF x, numF y, numF w])))) : Int))))))
 (bsel (isNum 400 (numF (unNum (numF x) / unNum (numF (-unNum (numF (↑(gcdFrom 0 (unNums (F.sl 3 (lget [numF x, numF y, numF w])))) : Int)))))))
 (bsel (isNum 400 (numF (unNum (numF y) / unNum (numF (-unNum (numF (↑(gcdFrom 0 (unNums (F.sl 3 (lget [numF x, numF y, numF w])))) : Int)))))))
 (bsel (isNum 400 (numF (unNum (numF w) / unNum (numF (-unNum (numF (↑(gcdFrom 0 (unNums (F.sl 3 (lget [numF x, numF y, numF w])))) : Int)))))))
 (bsel (decide ((if true = true then if (↑(Go.Proofs.Ytmambbfnjbdfgaa.R.bitLen (unNum (numF (unNum (numF w) / unNum (numF (-unNum (numF (↑(gcdFrom 0 (unNums (F.sl 3 (lget [numF x, numF y, numF w])))) : Int))))))).natAbs) : Int) > if true = true then if (↑(Go.Proofs.Ytmambbfnjbdfgaa.R.bitLen (unNum (numF (unNum (numF y) / unNum (numF (-unNum (numF (↑(gcdFrom 0 (unNums (F.sl 3 (lget [numF x, numF y, numF w])))) : Int))))))).natAbs) : Int) > (↑(Go.Proofs.Ytmambbfnjbdfgaa.R.bitLen (unNum (numF (unNum (numF x) / unNum (numF (-unNum (numF (↑(gcdFrom 0 (unNums (F.sl 3 (lget [numF x, numF y, numF w])))) : Int))))))).natAbs) : Int) then (↑(Go.Proofs.Ytmambbfnjbdfgaa.R.bitLen (unNum (numF (unNum (numF y) / unNum (numF (-unNum (numF (↑(gcdFrom 0 (unNums (F.sl 3 (lget [numF x, numF y, numF w])))) : Int))))))).natAbs) : Int) else (↑(Go.Proofs.Ytmambbfnjbdfgaa.R.bitLen (unNum (numF (unNum (numF x) / unNum (numF (-unNum (numF (↑(gcdFrom 0 (unNums (F.sl 3 (lget [numF x, numF y, numF w])))) : Int))))))).natAbs) : Int) else if (↑(Go.Proofs.Ytmambbfnjbdfgaa.R.bitLen (unNum (numF (unNum (numF y) / unNum (numF (-unNum (numF (↑(gcdFrom 0 (unNums (F.sl 3 (lget [numF x, numF y, numF w])))) : Int))))))).natAbs) : Int) < (↑(Go.Proofs.Ytmambbfnjbdfgaa.R.bitLen (unNum (numF (unNum (numF x) / unNum (numF (-unNum (numF (↑(gcdFrom 0 (unNums (F.sl 3 (lget [numF x, numF y, numF w])))) : Int))))))).natAbs) : Int) then (↑(Go.Proofs.Ytmambbfnjbdfgaa.R.bitLen (unNum (numF (unNum (numF y) / unNum (numF (-unNum (numF (↑(gcdFrom 0 (unNums (F.sl 3 (lget [numF x, numF y, numF w])))) : Int))))))).natAbs) : Int) else (↑(Go.Proofs.Ytmambbfnjbdfgaa.R.bitLen (unNum (numF (unNum (numF x) / unNum (numF (-unNum (numF (↑(gcdFrom 0 (unNums (F.sl 3 (lget [numF x, numF y, numF w])))) : Int))))))).natAbs) : Int) then (↑(Go.Proofs.Ytmambbfnjbdfgaa.R.bitLen (unNum (numF (unNum (numF w) / unNum (numF (-unNum (numF (↑(gcdFrom 0 (unNums (F.sl 3 (lget [numF x, numF y, numF w])))) : Int))))))).natAbs) : Int) else if true = true then if (↑(Go.Proofs.Ytmambbfnjbdfgaa.R.bitLen (unNum (numF (unNum (numF y) / unNum (numF (-unNum (numF (↑(gcdFrom 0 (unNums (F.sl 3 (lget [numF x, numF y, numF w])))) : Int))))))).natAbs) : Int) > (↑(Go.Proofs.Ytmambbfnjbdfgaa.R.bitLen (unNum (numF (unNum (numF x) / unNum (numF (-unNum (numF (↑(gcdFrom 0 (unNums (F.sl 3 (lget [numF x, numF y, numF w])))) : Int))))))).natAbs) : Int) then (↑(Go.Proofs.Ytmambbfnjbdfgaa.R.bitLen (unNum (numF (unNum (numF y) / unNum (numF (-unNum (numF (↑(gcdFrom 0 (unNums (F.sl 3 (lget [numF x, numF y, numF w])))) : Int))))))).natAbs) : Int) else (↑(Go.Proofs.Ytmambbfnjbdfgaa.R.bitLen (unNum (numF (unNum (numF x) / unNum (numF (-unNum (numF (↑(gcdFrom 0 (unNums (F.sl 3 (lget [numF x, numF y, numF w])))) : Int))))))).natAbs) : Int) else if (↑(Go.Proofs.Ytmambbfnjbdfgaa.R.bitLen (unNum (numF (unNum (numF y) / unNum (numF (-unNum (numF (↑(gcdFrom 0 (unNums (F.sl 3 (lget [numF x, numF y, numF w])))) : Int))))))).natAbs) : Int) < (↑(Go.Proofs.Ytmambbfnjbdfgaa.R.bitLen (unNum (numF (unNum (numF x) / unNum (numF (-unNum (numF (↑(gcdFrom 0 (unNums (F.sl 3 (lget [numF x, numF y, numF w])))) : Int))))))).natAbs) : Int) then (↑(Go.Proofs.Ytmambbfnjbdfgaa.R.bitLen (unNum (numF (unNum (numF y) / unNum (numF (-unNum (numF (↑(gcdFrom 0 (unNums (F.sl 3 (lget [numF x, numF y, numF w])))) : Int))))))).natAbs) : Int) else (↑(Go.Proofs.Ytmambbfnjbdfgaa.R.bitLen (unNum (numF (unNum (numF x) / unNum (numF (-unNum (numF (↑(gcdFrom 0 (unNums (F.sl 3 (lget [numF x, numF y, numF w])))) : Int))))))).natAbs) : Int) else if (↑(Go.Proofs.Ytmambbfnjbdfgaa.R.bitLen (unNum (numF (unNum (numF w) / unNum (numF (-unNum (numF (↑(gcdFrom 0 (unNums (F.sl 3 (lget [numF x, numF y, numF w])))) : Int))))))).natAbs) : Int) < if true = true then if (↑(Go.Proofs.Ytmambbfnjbdfgaa.R.bitLen (unNum (numF (unNum (numF y) / unNum (numF (-unNum (numF (↑(gcdFrom 0 (unNums (F.sl 3 (lget [numF x, numF y, numF w])))) : Int))))))).natAbs) : Int) > (↑(Go.Proofs.Ytmambbfnjbdfgaa.R.bitLen (unNum (numF (unNum (numF x) / unNum (numF (-unNum (numF (↑(gcdFrom 0 (unNums (F.sl 3 (lget [numF x, numF y, numF w])))) : Int))))))).natAbs) : Int) then (↑(Go.Proofs.Ytmambbfnjbdfgaa.R.bitLen (unNum (numF (unNum (numF y) / unNum (numF (-unNum (numF (↑(gcdFrom 0 (unNums (F.sl 3 (lget [numF x, numF y, numF w])))) : Int))))))).natAbs) : Int) else (↑(Go.Proofs.Ytmambbfnjbdfgaa.R.bitLen (unNum (numF (unNum (numF x) / unNum (numF (-unNum (numF (↑(gcdFrom 0 (unNums (F.sl 3 (lget [numF x, numF y, numF w])))) : Int))))))).natAbs) : Int) else if (↑(Go.Proofs.Ytmambbfnjbdfgaa.R.bitLen (unNum (numF (unNum (numF y) / unNum (numF (-unNum (numF (↑(gcdFrom 0 (unNums (F.sl 3 (lget [numF x, numF y, numF w])))) : Int))))))).natAbs) : Int) < (↑(Go.Proofs.Ytmambbfnjbdfgaa.R.bitLen (unNum (numF (unNum (numF x) / unNum (numF (-unNum (numF (↑(gcdFrom 0 (unNums (F.sl 3 (lget [numF x, numF y, numF w])))) : Int))))))).natAbs) : Int) then (↑(Go.Proofs.Ytmambbfnjbdfgaa.R.bitLen (unNum (numF (unNum (numF y) / unNum (numF (-unNum (numF (↑(gcdFrom 0 (unNums (F.sl 3 (lget [numF x, numF y, numF w])))) : Int))))))).natAbs) : Int) else (↑(Go.Proofs.Ytmambbfnjbdfgaa.R.bitLen (unNum (numF (unNum (numF x) / unNum (numF (-unNum (numF (↑(gcdFrom 0 (unNums (F.sl 3 (lget [numF x, numF y, numF w])))) : Int))))))).natAbs) : Int) then (↑(Go.Proofs.Ytmambbfnjbdfgaa.R.bitLen (unNum (numF (unNum (numF w) / unNum (numF (-unNum (numF (↑(gcdFrom 0 (unNums (F.sl 3 (lget [numF x, numF y, numF w])))) : Int))))))).natAbs) : Int) else if true = true then if (↑(Go.Proofs.Ytmambbfnjbdfgaa.R.bitLen (unNum (numF (unNum (numF y) / unNum (numF (-unNum (numF (↑(gcdFrom 0 (unNums (F.sl 3 (lget [numF x, numF y, numF w])))) : Int))))))).natAbs) : Int) > (↑(Go.Proofs.Ytmambbfnjbdfgaa.R.bitLen (unNum (numF (unNum (numF x) / unNum (numF (-unNum (numF (↑(gcdFrom 0 (unNums (F.sl 3 (lget [numF x, numF y, numF w])))) : Int))))))).natAbs) : Int) then (↑(Go.Proofs.Ytmambbfnjbdfgaa.R.bitLen (unNum (numF (unNum (numF y) / unNum (numF (-unNum (numF (↑(gcdFrom 0 (unNums (F.sl 3 (lget [numF x, numF y, numF w])))) : Int))))))).natAbs) : Int) else (↑(Go.Proofs.Ytmambbfnjbdfgaa.R.bitLen (unNum (numF (unNum (numF x) / unNum (numF (-unNum (numF (↑(gcdFrom 0 (unNums (F.sl 3 (lget [numF x, numF y, numF w])))) : Int))))))).natAbs) : Int) else if (↑(Go.Proofs.Ytmambbfnjbdfgaa.R.bitLen (unNum (numF (unNum (numF y) / unNum (numF (-unNum (numF (↑(gcdFrom 0 (unNums (F.sl 3 (lget [numF x, numF y, numF w])))) : Int))))))).natAbs) : Int) < (↑(Go.Proofs.Ytmambbfnjbdfgaa.R.bitLen (unNum (numF (unNum (numF x) / unNum (numF (-unNum (numF (↑(gcdFrom 0 (unNums (F.sl 3 (lget [numF x, numF y, numF w])))) : Int))))))).natAbs) : Int) then (↑(Go.Proofs.Ytmambbfnjbdfgaa.R.bitLen (unNum (numF (unNum (numF y) / unNum (numF (-unNum (numF (↑(gcdFrom 0 (unNums (F.sl 3 (lget [numF x, numF y, numF w])))) : Int))))))).natAbs) : Int) else (↑(Go.Proofs.Ytmambbfnjbdfgaa.R.bitLen (unNum (numF (unNum (numF x) / unNum (numF (-unNum (numF (↑(gcdFrom 0 (unNums (F.sl 3 (lget [numF x, numF y, numF w])))) : Int))))))).natAbs) : Int)) > 80))
 (ret (F.tup [F.agg [F.int .u64 0, F.int .u64 0, F.int .u64 0, F.int .u64 0, F.int .u64 0, F.int .u64 0, F.int .u64 0, F.int .u64 0, F.int .u64 0, F.int .u64 0, F.int .u64 0, F.int .u64 0], F.bool false]))
 (bsel (isNum 399 (numF (unNum (numF x) / unNum (numF (-unNum (numF (↑(gcdFrom 0 (unNums (F.sl 3 (lget [numF x, numF y, numF w])))) : Int)))))))
 (bsel (isNum 399 (numF (unNum (numF y) / unNum (numF (-unNum (numF (↑(gcdFrom 0 (unNums (F.sl 3 (lget [numF x, numF y, numF w])))) : Int)))))))
 (bsel (isNum 399 (numF (unNum (numF w) / unNum (numF (-unNum (numF (↑(gcdFrom 0 (unNums (F.sl 3 (lget [numF x, numF y, numF w])))) : Int)))))))
 (ret (F.tup [F.agg [F.int .u64 (wd3 (unNum (numF (unNum (numF x) / unNum (numF (-unNum (numF (↑(gcdFrom 0 (unNums (F.sl 3 (lget [numF x, numF y, numF w])))) : Int)))))))), F.int .u64 (wd2 (unNum (numF (unNum (numF x) / unNum (numF (-unNum (numF (↑(gcdFrom 0 (unNums (F.sl 3 (lget [numF x, numF y, numF w])))) : Int)))))))), F.int .u64 (wd1 (unNum (numF (unNum (numF x) / unNum (numF (-unNum (numF (↑(gcdFrom 0 (unNums (F.sl 3 (lget [numF x, numF y, numF w])))) : Int)))))))), F.int .u64 (wd0 (unNum (numF (unNum (numF x) / unNum (numF (-unNum (numF (↑(gcdFrom 0 (unNums (F.sl 3 (lget [numF x, numF y, numF w])))) : Int)))))))), F.int .u64 (wd3 (unNum (numF (unNum (numF y) / unNum (numF (-unNum (numF (↑(gcdFrom 0 (unNums (F.sl 3 (lget [numF x, numF y, numF w])))) : Int)))))))), F.int .u64 (wd2 (unNum (numF (unNum (numF y) / unNum (numF (-unNum (numF (↑(gcdFrom 0 (unNums (F.sl 3 (lget [numF x, numF y, numF w])))) : Int)))))))), F.int .u64 (wd1 (unNum (numF (unNum (numF y) / unNum (numF (-unNum (numF (↑(gcdFrom 0 (unNums (F.sl 3 (lget [numF x, numF y, numF w])))) : Int)))))))), F.int .u64 (wd0 (unNum (numF (unNum (numF y) / unNum (numF (-unNum (numF (↑(gcdFrom 0 (unNums (F.sl 3 (lget [numF x, numF y, numF w])))) : Int)))))))), F.int .u64 (wd3 (unNum (numF (unNum (numF w) / unNum (numF (-unNum (numF (↑(gcdFrom 0 (unNums (F.sl 3 (lget [numF x, numF y, numF w])))) : Int)))))))), F.int .u64 (wd2 (unNum (numF (unNum (numF w) / unNum (numF (-unNum (numF (↑(gcdFrom 0 (unNums (F.sl 3 (lget [numF x, numF y, numF w])))) : Int)))))))), F.int .u64 (wd1 (unNum (numF (unNum (numF w) / unNum (numF (-unNum (numF (↑(gcdFrom 0 (unNums (F.sl 3 (lget [numF x, numF y, numF w])))) : Int)))))))), F.int .u64 (wd0 (unNum (numF (unNum (numF w) / unNum (numF (-unNum (numF (↑(gcdFrom 0 (unNums (F.sl 3 (lget [numF x, numF y, numF w])))) : Int))))))))], F.bool true]))
 none)
 none)
 none))
 none)
 none)
 none)
 none)
 none)
 none)
 none)
 (bsel (isNum 399 (numF x) && isNum 399 (numF (↑(gcdFrom 0 (unNums (F.sl 3 (lget [numF x, numF y, numF w])))) : Int)) && overOk (unNum (numF x)) (unNum (numF (↑(gcdFrom 0 (unNums (F.sl 3 (lget [numF x, numF y, numF w])))) : Int))))
 (bsel (isNum 399 (numF y) && isNum 399 (numF (↑(gcdFrom 0 (unNums (F.sl 3 (lget [numF x, numF y, numF w])))) : Int)) && overOk (unNum (numF y)) (unNum (numF (↑(gcdFrom 0 (unNums (F.sl 3 (lget [numF x, numF y, numF w])))) : Int))))
 (bsel (isNum 399 (numF w) && isNum 399 (numF (↑(gcdFrom 0 (unNums (F.sl 3 (lget [numF x, numF y, numF w])))) : Int)) && overOk (unNum (numF w)) (unNum (numF (↑(gcdFrom 0 (unNums (F.sl 3 (lget [numF x, numF y, numF w])))) : Int))))
 (bsel (isNum 400 (numF (unNum (numF x) / unNum (numF (↑(gcdFrom 0 (unNums (F.sl 3 (lget [numF x, numF y, numF w])))) : Int)))))
 (bsel (isNum 400 (numF (unNum (numF y) / unNum (numF (↑(gcdFrom 0 (unNums (F.sl 3 (lget [numF x, numF y, numF w])))) : Int)))))
 (bsel (isNum 400 (numF (unNum (numF w) / unNum (numF (↑(gcdFrom 0 (unNums (F.sl 3 (lget [numF x, numF y, numF w])))) : Int)))))
 (bsel (decide ((if true = true then if (↑(Go.Proofs.Ytmambbfnjbdfgaa.R.bitLen (unNum (numF (unNum (numF w) / unNum (numF (↑(gcdFrom 0 (unNums (F.sl 3 (lget [numF x, numF y, numF w])))) : Int))))).natAbs) : Int) > if true = true then if (↑(Go.Proofs.Ytmambbfnjbdfgaa.R.bitLen (unNum (numF (unNum (numF y) / unNum (numF (↑(gcdFrom 0 (unNums (F.sl 3 (lget [numF x, numF y, numF w])))) : Int))))).natAbs) : Int) > (↑(Go.Proofs.Ytmambbfnjbdfgaa.R.bitLen (unNum (numF (unNum (numF x) / unNum (numF (↑(gcdFrom 0 (unNums (F.sl 3 (lget [numF x, numF y, numF w])))) : Int))))).natAbs) : Int) then (↑(Go.Proofs.Ytmambbfnjbdfgaa.R.bitLen (unNum (numF (unNum (numF y) / unNum (numF (↑(gcdFrom 0 (unNums (F.sl 3 (lget [numF x, numF y, numF w])))) : Int))))).natAbs) : Int) else (↑(Go.Proofs.Ytmambbfnjbdfgaa.R.bitLen (unNum (numF (unNum (numF x) / unNum (numF (↑(gcdFrom 0 (unNums (F.sl 3 (lget [numF x, numF y, numF w])))) : Int))))).natAbs) : Int) else if (↑(Go.Proofs.Ytmambbfnjbdfgaa.R.bitLen (unNum (numF (unNum (numF y) / unNum (numF (↑(gcdFrom 0 (unNums (F.sl 3 (lget [numF x, numF y, numF w])))) : Int))))).natAbs) : Int) < (↑(Go.Proofs.Ytmambbfnjbdfgaa.R.bitLen (unNum (numF (unNum (numF x) / unNum (numF (↑(gcdFrom 0 (unNums (F.sl 3 (lget [numF x, numF y, numF w])))) : Int))))).natAbs) : Int) then (↑(Go.Proofs.Ytmambbfnjbdfgaa.R.bitLen (unNum (numF (unNum (numF y) / unNum (numF (↑(gcdFrom 0 (unNums (F.sl 3 (lget [numF x, numF y, numF w])))) : Int))))).natAbs) : Int) else (↑(Go.Proofs.Ytmambbfnjbdfgaa.R.bitLen (unNum (numF (unNum (numF x) / unNum (numF (↑(gcdFrom 0 (unNums (F.sl 3 (lget [numF x, numF y, numF w])))) : Int))))).natAbs) : Int) then (↑(Go.Proofs.Ytmambbfnjbdfgaa.R.bitLen (unNum (numF (unNum (numF w) / unNum (numF (↑(gcdFrom 0 (unNums (F.sl 3 (lget [numF x, numF y, numF w])))) : Int))))).natAbs) : Int) else if true = true then if (↑(Go.Proofs.Ytmambbfnjbdfgaa.R.bitLen (unNum (numF (unNum (numF y) / unNum (numF (↑(gcdFrom 0 (unNums (F.sl 3 (lget [numF x, numF y, numF w])))) : Int))))).natAbs) : Int) > (↑(Go.Proofs.Ytmambbfnjbdfgaa.R.bitLen (unNum (numF (unNum (numF x) / unNum (numF (↑(gcdFrom 0 (unNums (F.sl 3 (lget [numF x, numF y, numF w])))) : Int))))).natAbs) : Int) then (↑(Go.Proofs.Ytmambbfnjbdfgaa.R.bitLen (unNum (numF (unNum (numF y) / unNum (numF (↑(gcdFrom 0 (unNums (F.sl 3 (lget [numF x, numF y, numF w])))) : Int))))).natAbs) : Int) else (↑(Go.Proofs.Ytmambbfnjbdfgaa.R.bitLen (unNum (numF (unNum (numF x) / unNum (numF (↑(gcdFrom 0 (unNums (F.sl 3 (lget [numF x, numF y, numF w])))) : Int))))).natAbs) : Int) else if (↑(Go.Proofs.Ytmambbfnjbdfgaa.R.bitLen (unNum (numF (unNum (numF y) / unNum (numF (↑(gcdFrom 0 (unNums (F.sl 3 (lget [numF x, numF y, numF w])))) : Int))))).natAbs) : Int) < (↑(Go.Proofs.Ytmambbfnjbdfgaa.R.bitLen (unNum (numF (unNum (numF x) / unNum (numF (↑(gcdFrom 0 (unNums (F.sl 3 (lget [numF x, numF y, numF w])))) : Int))))).natAbs) : Int) then (↑(Go.Proofs.Ytmambbfnjbdfgaa.R.bitLen (unNum (numF (unNum (numF y) / unNum (numF (↑(gcdFrom 0 (unNums (F.sl 3 (lget [numF x, numF y, numF w])))) : Int))))).natAbs) : Int) else (↑(Go.Proofs.Ytmambbfnjbdfgaa.R.bitLen (unNum (numF (unNum (numF x) / unNum (numF (↑(gcdFrom 0 (unNums (F.sl 3 (lget [numF x, numF y, numF w])))) : Int))))).natAbs) : Int) else if (↑(Go.Proofs.Ytmambbfnjbdfgaa.R.bitLen (unNum (numF (unNum (numF w) / unNum (numF (↑(gcdFrom 0 (unNums (F.sl 3 (lget [numF x, numF y, numF w])))) : Int))))).natAbs) : Int) < if true = true then if (↑(Go.Proofs.Ytmambbfnjbdfgaa.R.bitLen (unNum (numF (unNum (numF y) / unNum (numF (↑(gcdFrom 0 (unNums (F.sl 3 (lget [numF x, numF y, numF w])))) : Int))))).natAbs) : Int) > (↑(Go.Proofs.Ytmambbfnjbdfgaa.R.bitLen (unNum (numF (unNum (numF x) / unNum (numF (↑(gcdFrom 0 (unNums (F.sl 3 (lget [numF x, numF y, numF w])))) : Int))))).natAbs) : Int) then (↑(Go.Proofs.Ytmambbfnjbdfgaa.R.bitLen (unNum (numF (unNum (numF y) / unNum (numF (↑(gcdFrom 0 (unNums (F.sl 3 (lget [numF x, numF y, numF w])))) : Int))))).natAbs) : Int) else (↑(Go.Proofs.Ytmambbfnjbdfgaa.R.bitLen (unNum (numF (unNum (numF x) / unNum (numF (↑(gcdFrom 0 (unNums (F.sl 3 (lget [numF x, numF y, numF w])))) : Int))))).natAbs) : Int) else if (↑(Go.Proofs.Ytmambbfnjbdfgaa.R.bitLen (unNum (numF (unNum (numF y) / unNum (numF (↑(gcdFrom 0 (unNums (F.sl 3 (lget [numF x, numF y, numF w])))) : Int))))).natAbs) : Int) < (↑(Go.Proofs.Ytmambbfnjbdfgaa.R.bitLen (unNum (numF (unNum (numF x) / unNum (numF (↑(gcdFrom 0 (unNums (F.sl 3 (lget [numF x, numF y, numF w])))) : Int))))).natAbs) : Int) then (↑(Go.Proofs.Ytmambbfnjbdfgaa.R.bitLen (unNum (numF (unNum (numF y) / unNum (numF (↑(gcdFrom 0 (unNums (F.sl 3 (lget [numF x, numF y, numF w])))) : Int))))).natAbs) : Int) else (↑(Go.Proofs.Ytmambbfnjbdfgaa.R.bitLen (unNum (numF (unNum (numF x) / unNum (numF (↑(gcdFrom 0 (unNums (F.sl 3 (lget [numF x, numF y, numF w])))) : Int))))).natAbs) : Int) then (↑(Go.Proofs.Ytmambbfnjbdfgaa.R.bitLen (unNum (numF (unNum (numF w) / unNum (numF (↑(gcdFrom 0 (unNums (F.sl 3 (lget [numF x, numF y, numF w])))) : Int))))).natAbs) : Int) else if true = true then if (↑(Go.Proofs.Ytmambbfnjbdfgaa.R.bitLen (unNum (numF (unNum (numF y) / unNum (numF (↑(gcdFrom 0 (unNums (F.sl 3 (lget [numF x, numF y, numF w])))) : Int))))).natAbs) : Int) > (↑(Go.Proofs.Ytmambbfnjbdfgaa.R.bitLen (unNum (numF (unNum (numF x) / unNum (numF (↑(gcdFrom 0 (unNums (F.sl 3 (lget [numF x, numF y, numF w])))) : Int))))).natAbs) : Int) then (↑(Go.Proofs.Ytmambbfnjbdfgaa.R.bitLen (unNum (numF (unNum (numF y) / unNum (numF (↑(gcdFrom 0 (unNums (F.sl 3 (lget [numF x, numF y, numF w])))) : Int))))).natAbs) : Int) else (↑(Go.Proofs.Ytmambbfnjbdfgaa.R.bitLen (unNum (numF (unNum (numF x) / unNum (numF (↑(gcdFrom 0 (unNums (F.sl 3 (lget [numF x, numF y, numF w])))) : Int))))).natAbs) : Int) else if (↑(Go.Proofs.Ytmambbfnjbdfgaa.R.bitLen (unNum (numF (unNum (numF y) / unNum (numF (↑(gcdFrom 0 (unNums (F.sl 3 (lget [numF x, numF y, numF w])))) : Int))))).natAbs) : Int) < (↑(Go.Proofs.Ytmambbfnjbdfgaa.R.bitLen (unNum (numF (unNum (numF x) / unNum (numF (↑(gcdFrom 0 (unNums (F.sl 3 (lget [numF x, numF y, numF w])))) : Int))))).natAbs) : Int) then (↑(Go.Proofs.Ytmambbfnjbdfgaa.R.bitLen (unNum (numF (unNum (numF y) / unNum (numF (↑(gcdFrom 0 (unNums (F.sl 3 (lget [numF x, numF y, numF w])))) : Int))))).natAbs) : Int) else (↑(Go.Proofs.Ytmambbfnjbdfgaa.R.bitLen (unNum (numF (unNum (numF x) / unNum (numF (↑(gcdFrom 0 (unNums (F.sl 3 (lget [numF x, numF y, numF w])))) : Int))))).natAbs) : Int)) > 80))
 (ret (F.tup [F.agg [F.int .u64 0, F.int .u64 0, F.int .u64 0, F.int .u64 0, F.int .u64 0, F.int .u64 0, F.int .u64 0, F.int .u64 0, F.int .u64 0, F.int .u64 0, F.int .u64 0, F.int .u64 0], F.bool false]))
 (bsel (isNum 399 (numF (unNum (numF x) / unNum (numF (↑(gcdFrom 0 (unNums (F.sl 3 (lget [numF x, numF y, numF w])))) : Int)))))
 (bsel (isNum 399 (numF (unNum (numF y) / unNum (numF (↑(gcdFrom 0 (unNums (F.sl 3 (lget [numF x, numF y, numF w])))) : Int)))))
 (bsel (isNum 399 (numF (unNum (numF w) / unNum (numF (↑(gcdFrom 0 (unNums (F.sl 3 (lget [numF x, numF y, numF w])))) : Int)))))
 (ret (F.tup [F.agg [F.int .u64 (wd3 (unNum (numF (unNum (numF x) / unNum (numF (↑(gcdFrom 0 (unNums (F.sl 3 (lget [numF x, numF y, numF w])))) : Int)))))), F.int .u64 (wd2 (unNum (numF (unNum (numF x) / unNum (numF (↑(gcdFrom 0 (unNums (F.sl 3 (lget [numF x, numF y, numF w])))) : Int)))))), F.int .u64 (wd1 (unNum (numF (unNum (numF x) / unNum (numF (↑(gcdFrom 0 (unNums (F.sl 3 (lget [numF x, numF y, numF w])))) : Int)))))), F.int .u64 (wd0 (unNum (numF (unNum (numF x) / unNum (numF (↑(gcdFrom 0 (unNums (F.sl 3 (lget [numF x, numF y, numF w])))) : Int)))))), F.int .u64 (wd3 (unNum (numF (unNum (numF y) / unNum (numF (↑(gcdFrom 0 (unNums (F.sl 3 (lget [numF x, numF y, numF w])))) : Int)))))), F.int .u64 (wd2 (unNum (numF (unNum (numF y) / unNum (numF (↑(gcdFrom 0 (unNums (F.sl 3 (lget [numF x, numF y, numF w])))) : Int)))))), F.int .u64 (wd1 (unNum (numF (unNum (numF y) / unNum (numF (↑(gcdFrom 0 (unNums (F.sl 3 (lget [numF x, numF y, numF w])))) : Int)))))), F.int .u64 (wd0 (unNum (numF (unNum (numF y) / unNum (numF (↑(gcdFrom 0 (unNums (F.sl 3 (lget [numF x, numF y, numF w])))) : Int)))))), F.int .u64 (wd3 (unNum (numF (unNum (numF w) / unNum (numF (↑(gcdFrom 0 (unNums (F.sl 3 (lget [numF x, numF y, numF w])))) : Int)))))), F.int .u64 (wd2 (unNum (numF (unNum (numF w) / unNum (numF (↑(gcdFrom 0 (unNums (F.sl 3 (lget [numF x, numF y, numF w])))) : Int)))))), F.int .u64 (wd1 (unNum (numF (unNum (numF w) / unNum (numF (↑(gcdFrom 0 (unNums (F.sl 3 (lget [numF x, numF y, numF w])))) : Int)))))), F.int .u64 (wd0 (unNum (numF (unNum (numF w) / unNum (numF (↑(gcdFrom 0 (unNums (F.sl 3 (lget [numF x, numF y, numF w])))) : Int))))))], F.bool true]))
 none)
 none)
 none))
 none)
 none)
 none)
 none)
 none)
 none))
 none))
 none)
def G99 (x : Int) (y : Int) (w : Int) : Option (F) := T99 some x y w
theorem t99 (x : Int) (y : Int) (w : Int) (r : F) (h : G99 x y w = some r) : Ends Try.prog Try.f99.results.toList [.code (bodyOf Try.f99)] (start Try.f99.ntmps ([F.agg [F.bool (decide (x < 0)), wordsF (digs 18446744073709551616 x.natAbs), F.bool (decide (y < 0)), wordsF (digs 18446744073709551616 y.natAbs), F.bool (decide (w < 0)), wordsF (digs 18446744073709551616 w.natAbs)]].map .f)) (r) := by
  refine Ends.of_run tyOK envH6_ok (T := []) (n := 200) ?_
  have e : run Try.prog (tiOf Try.prog) envH6 [] 0 Try.f99.results.toList some 200 [.code (bodyOf Try.f99)] (start Try.f99.ntmps ([F.agg [F.bool (decide (x < 0)), wordsF (digs 18446744073709551616 x.natAbs), F.bool (decide (y < 0)), wordsF (digs 18446744073709551616 y.natAbs), F.bool (decide (w < 0)), wordsF (digs 18446744073709551616 w.natAbs)]].map .f)) = T99 (fun r => some (.ret (r))) x y w := by kernel_rfl
  rw [e]
  exact (good_sel h (fun _ h => (good_sel h (fun _ h => good_ret (by cases h; rfl)) (fun _ h => (good_sel h (fun _ h => (good_sel h (fun _ h => (good_sel h (fun _ h => (good_sel h (fun _ h => (good_sel h (fun _ h => (good_sel h (fun _ h => (good_sel h (fun _ h => (good_sel h (fun _ h => (good_sel h (fun _ h => (good_sel h (fun _ h => good_ret (by cases h; rfl)) (fun _ h => (good_sel h (fun _ h => (good_sel h (fun _ h => (good_sel h (fun _ h => good_ret (by cases h; rfl)) (fun _ h => nomatch h))) (fun _ h => nomatch h))) (fun _ h => nomatch h))))) (fun _ h => nomatch h))) (fun _ h => nomatch h))) (fun _ h => nomatch h))) (fun _ h => nomatch h))) (fun _ h => nomatch h))) (fun _ h => nomatch h))) (fun _ h => nomatch h))) (fun _ h => (good_sel h (fun _ h => (good_sel h (fun _ h => (good_sel h (fun _ h => (good_sel h (fun _ h => (good_sel h (fun _ h => (good_sel h (fun _ h => (good_sel h (fun _ h => good_ret (by cases h; rfl)) (fun _ h => (good_sel h (fun _ h => (good_sel h (fun _ h => (good_sel h (fun _ h => good_ret (by cases h; rfl)) (fun _ h => nomatch h))) (fun _ h => nomatch h))) (fun _ h => nomatch h))))) (fun _ h => nomatch h))) (fun _ h => nomatch h))) (fun _ h => nomatch h))) (fun _ h => nomatch h))) (fun _ h => nomatch h))) (fun _ h => nomatch h))))) (fun _ h => nomatch h))))) (fun _ h => nomatch h))
def isP12 (X : Option F) : Prop := ∃ (c0 c1 c2 c3 c4 c5 c6 c7 c8 c9 c10 c11 : Int) (b : Bool), X = some (F.tup [.agg [.int .u64 c0, .int .u64 c1, .int .u64 c2, .int .u64 c3, .int .u64 c4, .int .u64 c5, .int .u64 c6, .int .u64 c7, .int .u64 c8, .int .u64 c9, .int .u64 c10, .int .u64 c11], .bool b])
theorem ends2 {c : Bool} {X Y : Option F} (h1 : isP12 X) (h2 : isP12 Y) : isP12 (bsel c X Y) := by
  cases c
  · exact h2
  · exact h1
theorem quot_bound {x g : Int} {n : Nat} (h : x.natAbs < 18446744073709551616 ^ n) : (x / g).natAbs < 18446744073709551616 ^ (n + 1) :=
  bound_up (Nat.lt_of_le_of_lt (Int.natAbs_ediv_le_natAbs x g) h) (by omega)
theorem point_law {x y w : Int} (hx : x.natAbs < 18446744073709551616 ^ 100) (hy : y.natAbs < 18446744073709551616) (hw : w.natAbs < 18446744073709551616) : isP12 (G99 x y w) := by
  have hy1 : y.natAbs < 18446744073709551616 ^ 1 := by rw [Nat.pow_one]; exact hy
  have hw1 : w.natAbs < 18446744073709551616 ^ 1 := by rw [Nat.pow_one]; exact hw
  have e1 : unNums (F.sl 3 (lget [numF x, numF y, numF w])) = [x, y, w] := by
    show [unNum (numF x), unNum (numF y), unNum (numF w)] = _
    rw [unNum_numF, unNum_numF, unNum_numF]
  have e0 : isNums 400 (F.sl 3 (lget [numF x, numF y, numF w])) = true := by
    simp only [isNums, isSl, List.all_eq_true, List.mem_range]
    intro i hi
    match i, hi with
    | 0, _ => exact num_ok hx (by omega)
    | 1, _ => exact num_ok hy1 (by omega)
    | 2, _ => exact num_ok hw1 (by omega)
  have e2 : gcdOk [x, y, w] = true := gcdOk_iff.2 ⟨by simp, fun z hz => by
    simp at hz
    rcases hz with rfl | rfl
    · exact hy
    · exact hw⟩
  have z : ∀ {c0 c1 c2 c3 c4 c5 c6 c7 c8 c9 c10 c11 : Int} {b : Bool}, isP12 (some (F.tup [.agg [.int .u64 c0, .int .u64 c1, .int .u64 c2, .int .u64 c3, .int .u64 c4, .int .u64 c5, .int .u64 c6, .int .u64 c7, .int .u64 c8, .int .u64 c9, .int .u64 c10, .int .u64 c11], .bool b])) := ⟨_, _, _, _, _, _, _, _, _, _, _, _, _, rfl⟩
  unfold G99 T99
  simp only [e0, e1, e2, unNum_numF, num_ok hw1 (show 1 ≤ 400 by omega), Bool.and_self, bsel_true]
  by_cases h0 : w = 0
  · subst h0
    exact z
  · have hs : (w.sign == 0) = false := by
      rw [sign_eq0, beq_eq_false_iff_ne]; exact h0
    have hg0 : gcdFrom 0 [x, y, w] ≠ 0 ∧ gcdFrom 0 [x, y, w] ≤ w.natAbs := by
      have e : gcdFrom 0 [x, y, w] = Nat.gcd (Nat.gcd (Nat.gcd 0 x.natAbs) y.natAbs) w.natAbs := rfl
      rw [e]
      have h1 := Nat.gcd_pos_of_pos_right (Nat.gcd (Nat.gcd 0 x.natAbs) y.natAbs) (show 0 < w.natAbs by omega)
      have h2 := Nat.gcd_le_right (Nat.gcd (Nat.gcd 0 x.natAbs) y.natAbs) (show 0 < w.natAbs by omega)
      omega
    generalize gcdFrom 0 [x, y, w] = g at hg0
    have hg1 : ((g : Nat) : Int).natAbs < 18446744073709551616 ^ 1 := by rw [Nat.pow_one]; omega
    have hm1 : (-((g : Nat) : Int)).natAbs < 18446744073709551616 ^ 1 := by rw [Nat.pow_one]; omega
    have o1 : ∀ x : Int, overOk x (g : Int) = true := fun x => divOk_iff.2 ⟨by omega, .inl (by omega)⟩
    have o2 : ∀ x : Int, overOk x (-(g : Int)) = true := fun x => divOk_iff.2 ⟨by omega, .inl (by omega)⟩
    rw [hs, bsel_false]
    refine ends2 ?_ ?_
    · simp only [num_ok hg1 (show 1 ≤ 400 by omega), num_ok hx (show 100 ≤ 399 by omega), num_ok hy1 (show 1 ≤ 399 by omega), num_ok hw1 (show 1 ≤ 399 by omega), num_ok hm1 (show 1 ≤ 399 by omega), o2, num_ok (quot_bound (g := -(g : Int)) hx) (show 100 + 1 ≤ 400 by omega), num_ok (quot_bound (g := -(g : Int)) hy1) (show 1 + 1 ≤ 400 by omega), num_ok (quot_bound (g := -(g : Int)) hw1) (show 1 + 1 ≤ 400 by omega),
        num_ok (quot_bound (g := -(g : Int)) hx) (show 100 + 1 ≤ 399 by omega), num_ok (quot_bound (g := -(g : Int)) hy1) (show 1 + 1 ≤ 399 by omega), num_ok (quot_bound (g := -(g : Int)) hw1) (show 1 + 1 ≤ 399 by omega), Bool.and_self, bsel_true]
      exact ends2 z z
    · simp only [num_ok hg1 (show 1 ≤ 399 by omega), num_ok hx (show 100 ≤ 399 by omega), num_ok hy1 (show 1 ≤ 399 by omega), num_ok hw1 (show 1 ≤ 399 by omega), o1, num_ok (quot_bound (g := (g : Int)) hx) (show 100 + 1 ≤ 400 by omega), num_ok (quot_bound (g := (g : Int)) hy1) (show 1 + 1 ≤ 400 by omega), num_ok (quot_bound (g := (g : Int)) hw1) (show 1 + 1 ≤ 400 by omega),
        num_ok (quot_bound (g := (g : Int)) hx) (show 100 + 1 ≤ 399 by omega), num_ok (quot_bound (g := (g : Int)) hy1) (show 1 + 1 ≤ 399 by omega), num_ok (quot_bound (g := (g : Int)) hw1) (show 1 + 1 ≤ 399 by omega), Bool.and_self, bsel_true]
      exact ends2 z z
def spotF (x y w : Int) : F := .agg [.bool (decide (x < 0)), wordsF (digs 18446744073709551616 x.natAbs), .bool (decide (y < 0)), wordsF (digs 18446744073709551616 y.natAbs), .bool (decide (w < 0)), wordsF (digs 18446744073709551616 w.natAbs)]
def isSpot3 (n : Nat) : F → Bool | .agg [a, b, c, d, e, f] => isNum n (.agg [a, b]) && (isNum n (.agg [c, d]) && isNum n (.agg [e, f])) | _ => false
def unXs : F → Int | .agg [a, b, _, _, _, _] => unNum (.agg [a, b]) | _ => 0
def unYs : F → Int | .agg [_, _, c, d, _, _] => unNum (.agg [c, d]) | _ => 0
def unWs : F → Int | .agg [_, _, _, _, e, f] => unNum (.agg [e, f]) | _ => 0
theorem isSpot3_spotF {n : Nat} {x y w : Int} (hx : x.natAbs < 18446744073709551616 ^ n) (hy : y.natAbs < 18446744073709551616 ^ n) (hw : w.natAbs < 18446744073709551616 ^ n) : isSpot3 n (spotF x y w) = true := by
  have h1 := isNum_numF hx
  have h2 := isNum_numF hy
  have h3 := isNum_numF hw
  unfold numF at h1 h2 h3
  simp only [isSpot3, spotF, h1, h2, h3, Bool.and_self]
theorem spot3_eqv {n : Nat} {x : F} (h : isSpot3 n x = true) : FLe x (spotF (unXs x) (unYs x) (unWs x)) := by
  unfold isSpot3 at h
  split at h
  · rename_i a b c d e f
    rw [Bool.and_eq_true, Bool.and_eq_true] at h
    obtain ⟨s, y, e1, hy, f1⟩ := num_form h.1
    obtain ⟨t, z, e2, hz, f2⟩ := num_form h.2.1
    obtain ⟨r, o, e3, ho, f3⟩ := num_form h.2.2
    cases e1; cases e2; cases e3
    have g : spotF (unXs (.agg [.bool s, b, .bool t, d, .bool r, f])) (unYs (.agg [.bool s, b, .bool t, d, .bool r, f])) (unWs (.agg [.bool s, b, .bool t, d, .bool r, f])) = .agg [.bool s, wordsF (unWords b), .bool t, wordsF (unWords d), .bool r, wordsF (unWords f)] := by
      unfold numF at f1 f2 f3
      injection f1 with f1
      injection f2 with f2
      injection f3 with f3
      simp only [List.cons.injEq, and_true] at f1 f2 f3
      show F.agg [_, _, _, _, _, _] = _
      rw [show unXs (.agg [.bool s, b, .bool t, d, .bool r, f]) = unNum (.agg [.bool s, b]) from rfl, show unYs (.agg [.bool s, b, .bool t, d, .bool r, f]) = unNum (.agg [.bool t, d]) from rfl, show unWs (.agg [.bool s, b, .bool t, d, .bool r, f]) = unNum (.agg [.bool r, f]) from rfl, f1.1, f1.2, f2.1, f2.2, f3.1, f3.2]
    rw [g]
    exact FLe.agg ⟨.refl _, (words_eqv hy).1, .refl _, (words_eqv hz).1, .refl _, (words_eqv ho).1, trivial⟩
  · cases h
theorem spot3_bound {n : Nat} {x : F} (h : isSpot3 n x = true) : (unXs x).natAbs < 18446744073709551616 ^ n ∧ (unYs x).natAbs < 18446744073709551616 ^ n ∧ (unWs x).natAbs < 18446744073709551616 ^ n := by
  unfold isSpot3 at h
  split at h
  · rw [Bool.and_eq_true, Bool.and_eq_true] at h
    exact ⟨natAbs_of_isNum h.1, natAbs_of_isNum h.2.1, natAbs_of_isNum h.2.2⟩
  · cases h
def intAt (l : List F) (i : Nat) : Int := match l[i]? with | some (.int _ n) => n | _ => 0
def ptWV (i : Nat) (x y w : Int) : Int := match G99 x y w with | some (.tup [.agg l, _]) => intAt l i | _ => 0
def pointOkV (x y w : Int) : Bool := match G99 x y w with | some (.tup [_, .bool b]) => b | _ => false
def prePoint : List F → Bool | [x] => isSpot3 1 x | _ => false
def resPoint : List F → F | [x] => .tup [.agg [.int .u64 (ptWV 0 (unXs x) (unYs x) (unWs x)), .int .u64 (ptWV 1 (unXs x) (unYs x) (unWs x)), .int .u64 (ptWV 2 (unXs x) (unYs x) (unWs x)), .int .u64 (ptWV 3 (unXs x) (unYs x) (unWs x)), .int .u64 (ptWV 4 (unXs x) (unYs x) (unWs x)), .int .u64 (ptWV 5 (unXs x) (unYs x) (unWs x)), .int .u64 (ptWV 6 (unXs x) (unYs x) (unWs x)), .int .u64 (ptWV 7 (unXs x) (unYs x) (unWs x)), .int .u64 (ptWV 8 (unXs x) (unYs x) (unWs x)), .int .u64 (ptWV 9 (unXs x) (unYs x) (unWs x)), .int .u64 (ptWV 10 (unXs x) (unYs x) (unWs x)), .int .u64 (ptWV 11 (unXs x) (unYs x) (unWs x))], .bool (pointOkV (unXs x) (unYs x) (unWs x))] | _ => .dflt
theorem okPoint : PureOK Try.prog 99 prePoint resPoint :=
  fn_pure_at (c := bodyOf Try.f99) Try.func99 (by kernel_rfl) (by kernel_rfl) fun xs hp => match xs, hp with
  | [x], hp => by
    obtain ⟨b1, b2, b3⟩ := spot3_bound (n := 1) hp
    obtain ⟨c0, c1, c2, c3, c4, c5, c6, c7, c8, c9, c10, c11, b, e⟩ := point_law (x := unXs x) (y := unYs x) (w := unWs x) (bound_up b1 (show 1 ≤ 100 by omega)) (by rwa [Nat.pow_one] at b2) (by rwa [Nat.pow_one] at b3)
    refine ⟨[spotF (unXs x) (unYs x) (unWs x)], _, ⟨spot3_eqv hp, trivial⟩, t99 _ _ _ _ e, ?_⟩
    have e2 : pointOkV (unXs x) (unYs x) (unWs x) = b := by unfold pointOkV; rw [e]
    show FLe _ (.tup [.agg [.int .u64 (ptWV 0 (unXs x) (unYs x) (unWs x)), .int .u64 (ptWV 1 (unXs x) (unYs x) (unWs x)), .int .u64 (ptWV 2 (unXs x) (unYs x) (unWs x)), .int .u64 (ptWV 3 (unXs x) (unYs x) (unWs x)), .int .u64 (ptWV 4 (unXs x) (unYs x) (unWs x)), .int .u64 (ptWV 5 (unXs x) (unYs x) (unWs x)), .int .u64 (ptWV 6 (unXs x) (unYs x) (unWs x)), .int .u64 (ptWV 7 (unXs x) (unYs x) (unWs x)), .int .u64 (ptWV 8 (unXs x) (unYs x) (unWs x)), .int .u64 (ptWV 9 (unXs x) (unYs x) (unWs x)), .int .u64 (ptWV 10 (unXs x) (unYs x) (unWs x)), .int .u64 (ptWV 11 (unXs x) (unYs x) (unWs x))], .bool (pointOkV (unXs x) (unYs x) (unWs x))])
    simp only [ptWV, e2, e]
    exact .refl _
def envH7 : Env := envH6.add 99 (.pure prePoint resPoint)
theorem envH7_ok : EnvOK Try.prog envH7 := (Env.add_ok envH6_ok okPoint.sp)
end
end Go.Proofs.Ytmambbfnjbdfgaa.R

namespace Go.Proofs.Ytmambbfnjbdfgaa.R
open Go
noncomputable section
set_option linter.unusedVariables false
set_option linter.unusedSimpArgs false
set_option maxRecDepth 100000
/-! ### function 55 -/
/-! ### function 96 -/
def T96 {ρ : Type} (ret : (F) → Option ρ)  : Option ρ :=
 (ret (F.tup [F.int .i64 0, F.agg [F.int .u64 0, F.int .u64 0, F.int .u64 0, F.int .u64 0, F.int .u64 0, F.int .u64 0, F.int .u64 0, F.int .u64 0, F.int .u64 0, F.int .u64 0, F.int .u64 0, F.int .u64 0], F.agg [F.int .u64 0, F.int .u64 0, F.int .u64 0, F.int .u64 0, F.int .u64 0, F.int .u64 0, F.int .u64 0, F.int .u64 0, F.int .u64 0, F.int .u64 0, F.int .u64 0, F.int .u64 0]]))
def G96  : Option (F) := T96 some 
theorem t96  (r : F) (h : G96  = some r) : Ends Try.prog Try.f96.results.toList [.code (bodyOf Try.f96)] (start Try.f96.ntmps ([].map .f)) (r) := by
  refine Ends.of_run tyOK envH7_ok (T := []) (n := 200) ?_
  have e : run Try.prog (tiOf Try.prog) envH7 [] 0 Try.f96.results.toList some 200 [.code (bodyOf Try.f96)] (start Try.f96.ntmps ([].map .f)) = T96 (fun r => some (.ret (r)))  := by kernel_rfl
  rw [e]
  exact good_ret (by cases h; rfl)
def preNone : List F → Bool | [] => true | _ => false
def resNone : List F → F := fun _ => .tup [.int .i64 0, .agg [.int .u64 0, .int .u64 0, .int .u64 0, .int .u64 0, .int .u64 0, .int .u64 0, .int .u64 0, .int .u64 0, .int .u64 0, .int .u64 0, .int .u64 0, .int .u64 0], .agg [.int .u64 0, .int .u64 0, .int .u64 0, .int .u64 0, .int .u64 0, .int .u64 0, .int .u64 0, .int .u64 0, .int .u64 0, .int .u64 0, .int .u64 0, .int .u64 0]]
theorem okNone : PureOK Try.prog 96 preNone resNone :=
  fn_pure (c := bodyOf Try.f96) Try.func96 (by kernel_rfl) (by kernel_rfl) fun xs hp => match xs, hp with
  | [], hp => t96 _ rfl
def envH8 : Env := envH7.add 96 (.pure preNone resNone)
theorem envH8_ok : EnvOK Try.prog envH8 := (Env.add_ok envH7_ok okNone.sp)
end
end Go.Proofs.Ytmambbfnjbdfgaa.R

namespace Go.Proofs.Ytmambbfnjbdfgaa.R
open Go
noncomputable section
set_option linter.unusedVariables false
set_option linter.unusedSimpArgs false
set_option maxRecDepth 100000
set_option maxHeartbeats 2000000
/-! ### function 57 -/
def T57 {ρ : Type} (ret : (F) → Option ρ) (x0 : Int) (y0 : Int) (x1 : Int) (y1 : Int) (u0 : Int) (v0 : Int) (u1 : Int) (v1 : Int) : Option ρ :=
 (bsel (decide ((if true = true then if u0 > x0 then u0 else x0 else if u0 < x0 then u0 else x0) > if false = true then if u1 > x1 then u1 else x1 else if u1 < x1 then u1 else x1) == false)
 (bsel (decide ((if true = true then if (if false = true then if v1 > v0 then v1 else v0 else if v1 < v0 then v1 else v0) > if false = true then if y1 > y0 then y1 else y0 else if y1 < y0 then y1 else y0 then if false = true then if v1 > v0 then v1 else v0 else if v1 < v0 then v1 else v0 else if false = true then if y1 > y0 then y1 else y0 else if y1 < y0 then y1 else y0 else if (if false = true then if v1 > v0 then v1 else v0 else if v1 < v0 then v1 else v0) < if false = true then if y1 > y0 then y1 else y0 else if y1 < y0 then y1 else y0 then if false = true then if v1 > v0 then v1 else v0 else if v1 < v0 then v1 else v0 else if false = true then if y1 > y0 then y1 else y0 else if y1 < y0 then y1 else y0) > if false = true then if (if true = true then if v1 > v0 then v1 else v0 else if v1 < v0 then v1 else v0) > if true = true then if y1 > y0 then y1 else y0 else if y1 < y0 then y1 else y0 then if true = true then if v1 > v0 then v1 else v0 else if v1 < v0 then v1 else v0 else if true = true then if y1 > y0 then y1 else y0 else if y1 < y0 then y1 else y0 else if (if true = true then if v1 > v0 then v1 else v0 else if v1 < v0 then v1 else v0) < if true = true then if y1 > y0 then y1 else y0 else if y1 < y0 then y1 else y0 then if true = true then if v1 > v0 then v1 else v0 else if v1 < v0 then v1 else v0 else if true = true then if y1 > y0 then y1 else y0 else if y1 < y0 then y1 else y0))
 (ret (F.tup [F.int .i64 0, F.agg [F.int .u64 0, F.int .u64 0, F.int .u64 0, F.int .u64 0, F.int .u64 0, F.int .u64 0, F.int .u64 0, F.int .u64 0, F.int .u64 0, F.int .u64 0, F.int .u64 0, F.int .u64 0], F.agg [F.int .u64 0, F.int .u64 0, F.int .u64 0, F.int .u64 0, F.int .u64 0, F.int .u64 0, F.int .u64 0, F.int .u64 0, F.int .u64 0, F.int .u64 0, F.int .u64 0, F.int .u64 0]]))
 (bsel ((crossW x0 y0 x1 y1 u0 v0 == 0) == true)
 (bsel (crossW x0 y0 x1 y1 u1 v1 == 0)
 (bsel (decide (cmpV u0 v0 x0 y0 > 0))
 (bsel (decide (cmpV u1 v1 x1 y1 < 0))
 (bsel (decide (cmpV u0 v0 u1 v1 > 0))
 (ret (F.tup [F.int .i64 0, F.agg [F.int .u64 0, F.int .u64 0, F.int .u64 0, F.int .u64 0, F.int .u64 0, F.int .u64 0, F.int .u64 0, F.int .u64 0, F.int .u64 0, F.int .u64 0, F.int .u64 0, F.int .u64 0], F.agg [F.int .u64 0, F.int .u64 0, F.int .u64 0, F.int .u64 0, F.int .u64 0, F.int .u64 0, F.int .u64 0, F.int .u64 0, F.int .u64 0, F.int .u64 0, F.int .u64 0, F.int .u64 0]]))
 (bsel (cmpV u0 v0 u1 v1 == 0)
 (bsel (isI64 u0 && isI64 v0)
 (ret (F.tup [F.int .i64 1, F.agg [F.int .u64 (wd3 u0), F.int .u64 (wd2 u0), F.int .u64 (wd1 u0), F.int .u64 (wd0 u0), F.int .u64 (wd3 v0), F.int .u64 (wd2 v0), F.int .u64 (wd1 v0), F.int .u64 (wd0 v0), F.int .u64 (wd3 1), F.int .u64 (wd2 1), F.int .u64 (wd1 1), F.int .u64 (wd0 1)], F.agg [F.int .u64 0, F.int .u64 0, F.int .u64 0, F.int .u64 0, F.int .u64 0, F.int .u64 0, F.int .u64 0, F.int .u64 0, F.int .u64 0, F.int .u64 0, F.int .u64 0, F.int .u64 0]]))
 none)
 (bsel (isI64 u0 && isI64 v0)
 (bsel (isI64 u1 && isI64 v1)
 (ret (F.tup [F.int .i64 2, F.agg [F.int .u64 (wd3 u0), F.int .u64 (wd2 u0), F.int .u64 (wd1 u0), F.int .u64 (wd0 u0), F.int .u64 (wd3 v0), F.int .u64 (wd2 v0), F.int .u64 (wd1 v0), F.int .u64 (wd0 v0), F.int .u64 (wd3 1), F.int .u64 (wd2 1), F.int .u64 (wd1 1), F.int .u64 (wd0 1)], F.agg [F.int .u64 (wd3 u1), F.int .u64 (wd2 u1), F.int .u64 (wd1 u1), F.int .u64 (wd0 u1), F.int .u64 (wd3 v1), F.int .u64 (wd2 v1), F.int .u64 (wd1 v1), F.int .u64 (wd0 v1), F.int .u64 (wd3 1), F.int .u64 (wd2 1), F.int .u64 (wd1 1), F.int .u64 (wd0 1)]]))
 none)
 none)))
 (bsel (decide (cmpV u0 v0 x1 y1 > 0))
 (ret (F.tup [F.int .i64 0, F.agg [F.int .u64 0, F.int .u64 0, F.int .u64 0, F.int .u64 0, F.int .u64 0, F.int .u64 0, F.int .u64 0, F.int .u64 0, F.int .u64 0, F.int .u64 0, F.int .u64 0, F.int .u64 0], F.agg [F.int .u64 0, F.int .u64 0, F.int .u64 0, F.int .u64 0, F.int .u64 0, F.int .u64 0, F.int .u64 0, F.int .u64 0, F.int .u64 0, F.int .u64 0, F.int .u64 0, F.int .u64 0]]))
 (bsel (cmpV u0 v0 x1 y1 == 0)
 (bsel (isI64 u0 && isI64 v0)
 (ret (F.tup [F.int .i64 1, F.agg [F.int .u64 (wd3 u0), F.int .u64 (wd2 u0), F.int .u64 (wd1 u0), F.int .u64 (wd0 u0), F.int .u64 (wd3 v0), F.int .u64 (wd2 v0), F.int .u64 (wd1 v0), F.int .u64 (wd0 v0), F.int .u64 (wd3 1), F.int .u64 (wd2 1), F.int .u64 (wd1 1), F.int .u64 (wd0 1)], F.agg [F.int .u64 0, F.int .u64 0, F.int .u64 0, F.int .u64 0, F.int .u64 0, F.int .u64 0, F.int .u64 0, F.int .u64 0, F.int .u64 0, F.int .u64 0, F.int .u64 0, F.int .u64 0]]))
 none)
 (bsel (isI64 u0 && isI64 v0)
 (bsel (isI64 x1 && isI64 y1)
 (ret (F.tup [F.int .i64 2, F.agg [F.int .u64 (wd3 u0), F.int .u64 (wd2 u0), F.int .u64 (wd1 u0), F.int .u64 (wd0 u0), F.int .u64 (wd3 v0), F.int .u64 (wd2 v0), F.int .u64 (wd1 v0), F.int .u64 (wd0 v0), F.int .u64 (wd3 1), F.int .u64 (wd2 1), F.int .u64 (wd1 1), F.int .u64 (wd0 1)], F.agg [F.int .u64 (wd3 x1), F.int .u64 (wd2 x1), F.int .u64 (wd1 x1), F.int .u64 (wd0 x1), F.int .u64 (wd3 y1), F.int .u64 (wd2 y1), F.int .u64 (wd1 y1), F.int .u64 (wd0 y1), F.int .u64 (wd3 1), F.int .u64 (wd2 1), F.int .u64 (wd1 1), F.int .u64 (wd0 1)]]))
 none)
 none))))
 (bsel (decide (cmpV u1 v1 x1 y1 < 0))
 (bsel (decide (cmpV x0 y0 u1 v1 > 0))
 (ret (F.tup [F.int .i64 0, F.agg [F.int .u64 0, F.int .u64 0, F.int .u64 0, F.int .u64 0, F.int .u64 0, F.int .u64 0, F.int .u64 0, F.int .u64 0, F.int .u64 0, F.int .u64 0, F.int .u64 0, F.int .u64 0], F.agg [F.int .u64 0, F.int .u64 0, F.int .u64 0, F.int .u64 0, F.int .u64 0, F.int .u64 0, F.int .u64 0, F.int .u64 0, F.int .u64 0, F.int .u64 0, F.int .u64 0, F.int .u64 0]]))
 (bsel (cmpV x0 y0 u1 v1 == 0)
 (bsel (isI64 x0 && isI64 y0)
 (ret (F.tup [F.int .i64 1, F.agg [F.int .u64 (wd3 x0), F.int .u64 (wd2 x0), F.int .u64 (wd1 x0), F.int .u64 (wd0 x0), F.int .u64 (wd3 y0), F.int .u64 (wd2 y0), F.int .u64 (wd1 y0), F.int .u64 (wd0 y0), F.int .u64 (wd3 1), F.int .u64 (wd2 1), F.int .u64 (wd1 1), F.int .u64 (wd0 1)], F.agg [F.int .u64 0, F.int .u64 0, F.int .u64 0, F.int .u64 0, F.int .u64 0, F.int .u64 0, F.int .u64 0, F.int .u64 0, F.int .u64 0, F.int .u64 0, F.int .u64 0, F.int .u64 0]]))
 none)
 (bsel (isI64 x0 && isI64 y0)
 (bsel (isI64 u1 && isI64 v1)
 (ret (F.tup [F.int .i64 2, F.agg [F.int .u64 (wd3 x0), F.int .u64 (wd2 x0), F.int .u64 (wd1 x0), F.int .u64 (wd0 x0), F.int .u64 (wd3 y0), F.int .u64 (wd2 y0), F.int .u64 (wd1 y0), F.int .u64 (wd0 y0), F.int .u64 (wd3 1), F.int .u64 (wd2 1), F.int .u64 (wd1 1), F.int .u64 (wd0 1)], F.agg [F.int .u64 (wd3 u1), F.int .u64 (wd2 u1), F.int .u64 (wd1 u1), F.int .u64 (wd0 u1), F.int .u64 (wd3 v1), F.int .u64 (wd2 v1), F.int .u64 (wd1 v1), F.int .u64 (wd0 v1), F.int .u64 (wd3 1), F.int .u64 (wd2 1), F.int .u64 (wd1 1), F.int .u64 (wd0 1)]]))
 none)
 none)))
 (bsel (decide (cmpV x0 y0 x1 y1 > 0))
 (ret (F.tup [F.int .i64 0, F.agg [F.int .u64 0, F.int .u64 0, F.int .u64 0, F.int .u64 0, F.int .u64 0, F.int .u64 0, F.int .u64 0, F.int .u64 0, F.int .u64 0, F.int .u64 0, F.int .u64 0, F.int .u64 0], F.agg [F.int .u64 0, F.int .u64 0, F.int .u64 0, F.int .u64 0, F.int .u64 0, F.int .u64 0, F.int .u64 0, F.int .u64 0, F.int .u64 0, F.int .u64 0, F.int .u64 0, F.int .u64 0]]))
 (bsel (cmpV x0 y0 x1 y1 == 0)
 (bsel (isI64 x0 && isI64 y0)
 (ret (F.tup [F.int .i64 1, F.agg [F.int .u64 (wd3 x0), F.int .u64 (wd2 x0), F.int .u64 (wd1 x0), F.int .u64 (wd0 x0), F.int .u64 (wd3 y0), F.int .u64 (wd2 y0), F.int .u64 (wd1 y0), F.int .u64 (wd0 y0), F.int .u64 (wd3 1), F.int .u64 (wd2 1), F.int .u64 (wd1 1), F.int .u64 (wd0 1)], F.agg [F.int .u64 0, F.int .u64 0, F.int .u64 0, F.int .u64 0, F.int .u64 0, F.int .u64 0, F.int .u64 0, F.int .u64 0, F.int .u64 0, F.int .u64 0, F.int .u64 0, F.int .u64 0]]))
 none)
 (bsel (isI64 x0 && isI64 y0)
 (bsel (isI64 x1 && isI64 y1)
 (ret (F.tup [F.int .i64 2, F.agg [F.int .u64 (wd3 x0), F.int .u64 (wd2 x0), F.int .u64 (wd1 x0), F.int .u64 (wd0 x0), F.int .u64 (wd3 y0), F.int .u64 (wd2 y0), F.int .u64 (wd1 y0), F.int .u64 (wd0 y0), F.int .u64 (wd3 1), F.int .u64 (wd2 1), F.int .u64 (wd1 1), F.int .u64 (wd0 1)], F.agg [F.int .u64 (wd3 x1), F.int .u64 (wd2 x1), F.int .u64 (wd1 x1), F.int .u64 (wd0 x1), F.int .u64 (wd3 y1), F.int .u64 (wd2 y1), F.int .u64 (wd1 y1), F.int .u64 (wd0 y1), F.int .u64 (wd3 1), F.int .u64 (wd2 1), F.int .u64 (wd1 1), F.int .u64 (wd0 1)]]))
 none)
 none)))))
 (bsel (decide (IntKind.i64.wrap (signV (crossW x0 y0 x1 y1 u0 v0) * signV (crossW x0 y0 x1 y1 u1 v1)) > 0) == false)
 (bsel (decide (IntKind.i64.wrap (signV (crossW u0 v0 u1 v1 x0 y0) * signV (crossW u0 v0 u1 v1 x1 y1)) > 0))
 (ret (F.tup [F.int .i64 0, F.agg [F.int .u64 0, F.int .u64 0, F.int .u64 0, F.int .u64 0, F.int .u64 0, F.int .u64 0, F.int .u64 0, F.int .u64 0, F.int .u64 0, F.int .u64 0, F.int .u64 0, F.int .u64 0], F.agg [F.int .u64 0, F.int .u64 0, F.int .u64 0, F.int .u64 0, F.int .u64 0, F.int .u64 0, F.int .u64 0, F.int .u64 0, F.int .u64 0, F.int .u64 0, F.int .u64 0, F.int .u64 0]]))
 (bsel (isI64 (IntKind.i64.wrap (crossW x0 y0 x1 y1 u0 v0 - crossW x0 y0 x1 y1 u1 v1)))
 (bsel (isI64 u0)
 (bsel (isNum 400 (resWhole [F.int .i64 u0]) && isNum 400 (numF (IntKind.i64.wrap (crossW x0 y0 x1 y1 u0 v0 - crossW x0 y0 x1 y1 u1 v1))))
 (bsel (isI64 (crossW x0 y0 x1 y1 u0 v0))
 (bsel (isI64 (IntKind.i64.wrap (u1 - u0)))
 (bsel (isNum 400 (resWhole [F.int .i64 (crossW x0 y0 x1 y1 u0 v0)]) && isNum 400 (resWhole [F.int .i64 (IntKind.i64.wrap (u1 - u0))]))
 (bsel (isNum 400 (resBy [resWhole [F.int .i64 u0], numF (IntKind.i64.wrap (crossW x0 y0 x1 y1 u0 v0 - crossW x0 y0 x1 y1 u1 v1))]) && isNum 400 (resBy [resWhole [F.int .i64 (crossW x0 y0 x1 y1 u0 v0)], resWhole [F.int .i64 (IntKind.i64.wrap (u1 - u0))]]))
 (bsel (isI64 v0)
 (bsel (isNum 400 (resWhole [F.int .i64 v0]) && isNum 400 (numF (IntKind.i64.wrap (crossW x0 y0 x1 y1 u0 v0 - crossW x0 y0 x1 y1 u1 v1))))
 (bsel (isI64 (crossW x0 y0 x1 y1 u0 v0))
 (bsel (isI64 (IntKind.i64.wrap (v1 - v0)))
 (bsel (isNum 400 (resWhole [F.int .i64 (crossW x0 y0 x1 y1 u0 v0)]) && isNum 400 (resWhole [F.int .i64 (IntKind.i64.wrap (v1 - v0))]))
 (bsel (isNum 400 (resBy [resWhole [F.int .i64 v0], numF (IntKind.i64.wrap (crossW x0 y0 x1 y1 u0 v0 - crossW x0 y0 x1 y1 u1 v1))]) && isNum 400 (resBy [resWhole [F.int .i64 (crossW x0 y0 x1 y1 u0 v0)], resWhole [F.int .i64 (IntKind.i64.wrap (v1 - v0))]]))
 (bsel (isSpot3 1 (spotF (unNum (resBy [resWhole [F.int .i64 u0], numF (IntKind.i64.wrap (crossW x0 y0 x1 y1 u0 v0 - crossW x0 y0 x1 y1 u1 v1))]) + unNum (resBy [resWhole [F.int .i64 (crossW x0 y0 x1 y1 u0 v0)], resWhole [F.int .i64 (IntKind.i64.wrap (u1 - u0))]])) (unNum (resBy [resWhole [F.int .i64 v0], numF (IntKind.i64.wrap (crossW x0 y0 x1 y1 u0 v0 - crossW x0 y0 x1 y1 u1 v1))]) + unNum (resBy [resWhole [F.int .i64 (crossW x0 y0 x1 y1 u0 v0)], resWhole [F.int .i64 (IntKind.i64.wrap (v1 - v0))]])) (IntKind.i64.wrap (crossW x0 y0 x1 y1 u0 v0 - crossW x0 y0 x1 y1 u1 v1))))
 (ret (F.tup [F.int .i64 1, F.agg [F.int .u64 (ptWV 0 (unXs (spotF (unNum (resBy [resWhole [F.int .i64 u0], numF (IntKind.i64.wrap (crossW x0 y0 x1 y1 u0 v0 - crossW x0 y0 x1 y1 u1 v1))]) + unNum (resBy [resWhole [F.int .i64 (crossW x0 y0 x1 y1 u0 v0)], resWhole [F.int .i64 (IntKind.i64.wrap (u1 - u0))]])) (unNum (resBy [resWhole [F.int .i64 v0], numF (IntKind.i64.wrap (crossW x0 y0 x1 y1 u0 v0 - crossW x0 y0 x1 y1 u1 v1))]) + unNum (resBy [resWhole [F.int .i64 (crossW x0 y0 x1 y1 u0 v0)], resWhole [F.int .i64 (IntKind.i64.wrap (v1 - v0))]])) (IntKind.i64.wrap (crossW x0 y0 x1 y1 u0 v0 - crossW x0 y0 x1 y1 u1 v1)))) (unYs (spotF (unNum (resBy [resWhole [F.int .i64 u0], numF (IntKind.i64.wrap (crossW x0 y0 x1 y1 u0 v0 - crossW x0 y0 x1 y1 u1 v1))]) + unNum (resBy [resWhole [F.int .i64 (crossW x0 y0 x1 y1 u0 v0)], resWhole [F.int .i64 (IntKind.i64.wrap (u1 - u0))]])) (unNum (resBy [resWhole [F.int .i64 v0], numF (IntKind.i64.wrap (crossW x0 y0 x1 y1 u0 v0 - crossW x0 y0 x1 y1 u1 v1))]) + unNum (resBy [resWhole [F.int .i64 (crossW x0 y0 x1 y1 u0 v0)], resWhole [F.int .i64 (IntKind.i64.wrap (v1 - v0))]])) (IntKind.i64.wrap (crossW x0 y0 x1 y1 u0 v0 - crossW x0 y0 x1 y1 u1 v1)))) (unWs (spotF (unNum (resBy [resWhole [F.int .i64 u0], numF (IntKind.i64.wrap (crossW x0 y0 x1 y1 u0 v0 - crossW x0 y0 x1 y1 u1 v1))]) + unNum (resBy [resWhole [F.int .i64 (crossW x0 y0 x1 y1 u0 v0)], resWhole [F.int .i64 (IntKind.i64.wrap (u1 - u0))]])) (unNum (resBy [resWhole [F.int .i64 v0], numF (IntKind.i64.wrap (crossW x0 y0 x1 y1 u0 v0 - crossW x0 y0 x1 y1 u1 v1))]) + unNum (resBy [resWhole [F.int .i64 (crossW x0 y0 x1 y1 u0 v0)], resWhole [F.int .i64 (IntKind.i64.wrap (v1 - v0))]])) (IntKind.i64.wrap (crossW x0 y0 x1 y1 u0 v0 - crossW x0 y0 x1 y1 u1 v1))))), F.int .u64 (ptWV 1 (unXs (spotF (unNum (resBy [resWhole [F.int .i64 u0], numF (IntKind.i64.wrap (crossW x0 y0 x1 y1 u0 v0 - crossW x0 y0 x1 y1 u1 v1))]) + unNum (resBy [resWhole [F.int .i64 (crossW x0 y0 x1 y1 u0 v0)], resWhole [F.int .i64 (IntKind.i64.wrap (u1 - u0))]])) (unNum (resBy [resWhole [F.int .i64 v0], numF (IntKind.i64.wrap (crossW x0 y0 x1 y1 u0 v0 - crossW x0 y0 x1 y1 u1 v1))]) + unNum (resBy [resWhole [F.int .i64 (crossW x0 y0 x1 y1 u0 v0)], resWhole [F.int .i64 (IntKind.i64.wrap (v1 - v0))]])) (IntKind.i64.wrap (crossW x0 y0 x1 y1 u0 v0 - crossW x0 y0 x1 y1 u1 v1)))) (unYs (spotF (unNum (resBy [resWhole [F.int .i64 u0], numF (IntKind.i64.wrap (crossW x0 y0 x1 y1 u0 v0 - crossW x0 y0 x1 y1 u1 v1))]) + unNum (resBy [resWhole [F.int .i64 (crossW x0 y0 x1 y1 u0 v0)], resWhole [F.int .i64 (IntKind.i64.wrap (u1 - u0))]])) (unNum (resBy [resWhole [F.int .i64 v0], numF (IntKind.i64.wrap (crossW x0 y0 x1 y1 u0 v0 - crossW x0 y0 x1 y1 u1 v1))]) + unNum (resBy [resWhole [F.int .i64 (crossW x0 y0 x1 y1 u0 v0)], resWhole [F.int .i64 (IntKind.i64.wrap (v1 - v0))]])) (IntKind.i64.wrap (crossW x0 y0 x1 y1 u0 v0 - crossW x0 y0 x1 y1 u1 v1)))) (unWs (spotF (unNum (resBy [resWhole [F.int .i64 u0], numF (IntKind.i64.wrap (crossW x0 y0 x1 y1 u0 v0 - crossW x0 y0 x1 y1 u1 v1))]) + unNum (resBy [resWhole [F.int .i64 (crossW x0 y0 x1 y1 u0 v0)], resWhole [F.int .i64 (IntKind.i64.wrap (u1 - u0))]])) (unNum (resBy [resWhole [F.int .i64 v0], numF (IntKind.i64.wrap (crossW x0 y0 x1 y1 u0 v0 - crossW x0 y0 x1 y1 u1 v1))]) + unNum (resBy [resWhole [F.int .i64 (crossW x0 y0 x1 y1 u0 v0)], resWhole [F.int .i64 (IntKind.i64.wrap (v1 - v0))]])) (IntKind.i64.wrap (crossW x0 y0 x1 y1 u0 v0 - crossW x0 y0 x1 y1 u1 v1))))), F.int .u64 (ptWV 2 (unXs (spotF (unNum (resBy [resWhole [F.int .i64 u0], numF (IntKind.i64.wrap (crossW x0 y0 x1 y1 u0 v0 - crossW x0 y0 x1 y1 u1 v1))]) + unNum (resBy [resWhole [F.int .i64 (crossW x0 y0 x1 y1 u0 v0)], resWhole [F.int .i64 (IntKind.i64.wrap (u1 - u0))]])) (unNum (resBy [resWhole [F.int .i64 v0], numF (IntKind.i64.wrap (crossW x0 y0 x1 y1 u0 v0 - crossW x0 y0 x1 y1 u1 v1))]) + unNum (resBy [resWhole [F.int .i64 (crossW x0 y0 x1 y1 u0 v0)], resWhole [F.int .i64 (IntKind.i64.wrap (v1 - v0))]])) (IntKind.i64.wrap (crossW x0 y0 x1 y1 u0 v0 - crossW x0 y0 x1 y1 u1 v1)))) (unYs (spotF (unNum (resBy [resWhole [F.int .i64 u0], numF (IntKind.i64.wrap (crossW x0 y0 x1 y1 u0 v0 - crossW x0 y0 x1 y1 u1 v1))]) + unNum (resBy [resWhole [F.int .i64 (crossW x0 y0 x1 y1 u0 v0)], resWhole [F.int .i64 (IntKind.i64.wrap (u1 - u0))]])) (unNum (resBy [resWhole [F.int .i64 v0], numF (IntKind.i64.wrap (crossW x0 y0 x1 y1 u0 v0 - crossW x0 y0 x1 y1 u1 v1))]) + unNum (resBy [resWhole [F.int .i64 (crossW x0 y0 x1 y1 u0 v0)], resWhole [F.int .i64 (IntKind.i64.wrap (v1 - v0))]])) (IntKind.i64.wrap (crossW x0 y0 x1 y1 u0 v0 - crossW x0 y0 x1 y1 u1 v1)))) (unWs (spotF (unNum (resBy [resWhole [F.int .i64 u0], numF (IntKind.i64.wrap (crossW x0 y0 x1 y1 u0 v0 - crossW x0 y0 x1 y1 u1 v1))]) + unNum (resBy [resWhole [F.int .i64 (crossW x0 y0 x1 y1 u0 v0)], resWhole [F.int .i64 (IntKind.i64.wrap (u1 - u0))]])) (unNum (resBy [resWhole [F.int .i64 v0], numF (IntKind.i64.wrap (crossW x0 y0 x1 y1 u0 v0 - crossW x0 y0 x1 y1 u1 v1))]) + unNum (resBy [resWhole [F.int .i64 (crossW x0 y0 x1 y1 u0 v0)], resWhole [F.int .i64 (IntKind.i64.wrap (v1 - v0))]])) (IntKind.i64.wrap (crossW x0 y0 x1 y1 u0 v0 - crossW x0 y0 x1 y1 u1 v1))))), F.int .u64 (ptWV 3 (unXs (spotF (unNum (resBy [resWhole [F.int .i64 u0], numF (IntKind.i64.wrap (crossW x0 y0 x1 y1 u0 v0 - crossW x0 y0 x1 y1 u1 v1))]) + unNum (resBy [resWhole [F.int .i64 (crossW x0 y0 x1 y1 u0 v0)], resWhole [F.int .i64 (IntKind.i64.wrap (u1 - u0))]])) (unNum (resBy [resWhole [F.int .i64 v0], numF (IntKind.i64.wrap (crossW x0 y0 x1 y1 u0 v0 - crossW x0 y0 x1 y1 u1 v1))]) + unNum (resBy [resWhole [F.int .i64 (crossW x0 y0 x1 y1 u0 v0)], resWhole [F.int .i64 (IntKind.i64.wrap (v1 - v0))]])) (IntKind.i64.wrap (crossW x0 y0 x1 y1 u0 v0 - crossW x0 y0 x1 y1 u1 v1)))) (unYs (spotF (unNum (resBy [resWhole [F.int .i64 u0], numF (IntKind.i64.wrap (crossW x0 y0 x1 y1 u0 v0 - crossW x0 y0 x1 y1 u1 v1))]) + unNum (resBy [resWhole [F.int .i64 (crossW x0 y0 x1 y1 u0 v0)], resWhole [F.int .i64 (IntKind.i64.wrap (u1 - u0))]])) (unNum (resBy [resWhole [F.int .i64 v0], numF (IntKind.i64.wrap (crossW x0 y0 x1 y1 u0 v0 - crossW x0 y0 x1 y1 u1 v1))]) + unNum (resBy [resWhole [F.int .i64 (crossW x0 y0 x1 y1 u0 v0)], resWhole [F.int .i64 (IntKind.i64.wrap (v1 - v0))]])) (IntKind.i64.wrap (crossW x0 y0 x1 y1 u0 v0 - crossW x0 y0 x1 y1 u1 v1)))) (unWs (spotF (unNum (resBy [resWhole [F.int .i64 u0], numF (IntKind.i64.wrap (crossW x0 y0 x1 y1 u0 v0 - crossW x0 y0 x1 y1 u1 v1))]) + unNum (resBy [resWhole [F.int .i64 (crossW x0 y0 x1 y1 u0 v0)], resWhole [F.int .i64 (IntKind.i64.wrap (u1 - u0))]])) (unNum (resBy [resWhole [F.int .i64 v0], numF (IntKind.i64.wrap (crossW x0 y0 x1 y1 u0 v0 - crossW x0 y0 x1 y1 u1 v1))]) + unNum (resBy [resWhole [F.int .i64 (crossW x0 y0 x1 y1 u0 v0)], resWhole [F.int .i64 (IntKind.i64.wrap (v1 - v0))]])) (IntKind.i64.wrap (crossW x0 y0 x1 y1 u0 v0 - crossW x0 y0 x1 y1 u1 v1))))), F.int .u64 (ptWV 4 (unXs (spotF (unNum (resBy [resWhole [F.int .i64 u0], numF (IntKind.i64.wrap (crossW x0 y0 x1 y1 u0 v0 - crossW x0 y0 x1 y1 u1 v1))]) + unNum (resBy [resWhole [F.int .i64 (crossW x0 y0 x1 y1 u0 v0)], resWhole [F.int .i64 (IntKind.i64.wrap (u1 - u0))]])) (unNum (resBy [resWhole [F.int .i64 v0], numF (IntKind.i64.wrap (crossW x0 y0 x1 y1 u0 v0 - crossW x0 y0 x1 y1 u1 v1))]) + unNum (resBy [resWhole [F.int .i64 (crossW x0 y0 x1 y1 u0 v0)], resWhole [F.int .i64 (IntKind.i64.wrap (v1 - v0))]])) (IntKind.i64.wrap (crossW x0 y0 x1 y1 u0 v0 - crossW x0 y0 x1 y1 u1 v1)))) (unYs (spotF (unNum (resBy [resWhole [F.int .i64 u0], numF (IntKind.i64.wrap (crossW x0 y0 x1 y1 u0 v0 - crossW x0 y0 x1 y1 u1 v1))]) + unNum (resBy [resWhole [F.int .i64 (crossW x0 y0 x1 y1 u0 v0)], resWhole [F.int .i64 (IntKind.i64.wrap (u1 - u0))]])) (unNum (resBy [resWhole [F.int .i64 v0], numF (IntKind.i64.wrap (crossW x0 y0 x1 y1 u0 v0 - crossW x0 y0 x1 y1 u1 v1))]) + unNum (resBy [resWhole [F.int .i64 (crossW x0 y0 x1 y1 u0 v0)], resWhole [F.int .i64 (IntKind.i64.wrap (v1 - v0))]])) (IntKind.i64.wrap (crossW x0 y0 x1 y1 u0 v0 - crossW x0 y0 x1 y1 u1 v1)))) (unWs (spotF (unNum (resBy [resWhole [F.int .i64 u0], numF (IntKind.i64.wrap (crossW x0 y0 x1 y1 u0 v0 - crossW x0 y0 x1 y1 u1 v1))]) + unNum (resBy [resWhole [F.int .i64 (crossW x0 y0 x1 y1 u0 v0)], resWhole [F.int .i64 (IntKind.i64.wrap (u1 - u0))]])) (unNum (resBy [resWhole [F.int .i64 v0], numF (IntKind.i64.wrap (crossW x0 y0 x1 y1 u0 v0 - crossW x0 y0 x1 y1 u1 v1))]) + unNum (resBy [resWhole [F.int .i64 (crossW x0 y0 x1 y1 u0 v0)], resWhole [F.int .i64 (IntKind.i64.wrap (v1 - v0))]])) (IntKind.i64.wrap (crossW x0 y0 x1 y1 u0 v0 - crossW x0 y0 x1 y1 u1 v1))))), F.int .u64 (ptWV 5 (unXs (spotF (unNum (resBy [resWhole [F.int .i64 u0], numF (IntKind.i64.wrap (crossW x0 y0 x1 y1 u0 v0 - crossW x0 y0 x1 y1 u1 v1))]) + unNum (resBy [resWhole [F.int .i64 (crossW x0 y0 x1 y1 u0 v0)], resWhole [F.int .i64 (IntKind.i64.wrap (u1 - u0))]])) (unNum (resBy [resWhole [F.int .i64 v0], numF (IntKind.i64.wrap (crossW x0 y0 x1 y1 u0 v0 - crossW x0 y0 x1 y1 u1 v1))]) + unNum (resBy [resWhole [F.int .i64 (crossW x0 y0 x1 y1 u0 v0)], resWhole [F.int .i64 (IntKind.i64.wrap (v1 - v0))]])) (IntKind.i64.wrap (crossW x0 y0 x1 y1 u0 v0 - crossW x0 y0 x1 y1 u1 v1)))) (unYs (spotF (unNum (resBy [resWhole [F.int .i64 u0], numF (IntKind.i64.wrap (crossW x0 y0 x1 y1 u0 v0 - crossW x0 y0 x1 y1 u1 v1))]) + unNum (resBy [resWhole [F.int .i64 (crossW x0 y0 x1 y1 u0 v0)], resWhole [F.int .i64 (IntKind.i64.wrap (u1 - u0))]])) (unNum (resBy [resWhole [F.int .i64 v0], numF (IntKind.i64.wrap (crossW x0 y0 x1 y1 u0 v0 - crossW x0 y0 x1 y1 u1 v1))]) + unNum (resBy [resWhole [F.int .i64 (crossW x0 y0 x1 y1 u0 v0)], resWhole [F.int .i64 (IntKind.i64.wrap (v1 - v0))]])) (IntKind.i64.wrap (crossW x0 y0 x1 y1 u0 v0 - crossW x0 y0 x1 y1 u1 v1)))) (unWs (spotF (unNum (resBy [resWhole [F.int .i64 u0], numF (IntKind.i64.wrap (crossW x0 y0 x1 y1 u0 v0 - crossW x0 y0 x1 y1 u1 v1))]) + unNum (resBy [resWhole [F.int .i64 (crossW x0 y0 x1 y1 u0 v0)], resWhole [F.int .i64 (IntKind.i64.wrap (u1 - u0))]])) (unNum (resBy [resWhole [F.int .i64 v0], numF (IntKind.i64.wrap (crossW x0 y0 x1 y1 u0 v0 - crossW x0 y0 x1 y1 u1 v1))]) + unNum (resBy [resWhole [F.int .i64 (crossW x0 y0 x1 y1 u0 v0)], resWhole [F.int .i64 (IntKind.i64.wrap (v1 - v0))]])) (IntKind.i64.wrap (crossW x0 y0 x1 y1 u0 v0 - crossW x0 y0 x1 y1 u1 v1))))), F.int .u64 (ptWV 6 (unXs (spotF (unNum (resBy [resWhole [F.int .i64 u0], numF (IntKind.i64.wrap (crossW x0 y0 x1 y1 u0 v0 - crossW x0 y0 x1 y1 u1 v1))]) + unNum (resBy [resWhole [F.int .i64 (crossW x0 y0 x1 y1 u0 v0)], resWhole [F.int .i64 (IntKind.i64.wrap (u1 - u0))]])) (unNum (resBy [resWhole [F.int .i64 v0], numF (IntKind.i64.wrap (crossW x0 y0 x1 y1 u0 v0 - crossW x0 y0 x1 y1 u1 v1))]) + unNum (resBy [resWhole [F.int .i64 (crossW x0 y0 x1 y1 u0 v0)], resWhole [F.int .i64 (IntKind.i64.wrap (v1 - v0))]])) (IntKind.i64.wrap (crossW x0 y0 x1 y1 u0 v0 - crossW x0 y0 x1 y1 u1 v1)))) (unYs (spotF (unNum (resBy [resWhole [F.int .i64 u0], numF (IntKind.i64.wrap (crossW x0 y0 x1 y1 u0 v0 - crossW x0 y0 x1 y1 u1 v1))]) + unNum (resBy [resWhole [F.int .i64 (crossW x0 y0 x1 y1 u0 v0)], resWhole [F.int .i64 (IntKind.i64.wrap (u1 - u0))]])) (unNum (resBy [resWhole [F.int .i64 v0], numF (IntKind.i64.wrap (crossW x0 y0 x1 y1 u0 v0 - crossW x0 y0 x1 y1 u1 v1))]) + unNum (resBy [resWhole [F.int .i64 (crossW x0 y0 x1 y1 u0 v0)], resWhole [F.int .i64 (IntKind.i64.wrap (v1 - v0))]])) (IntKind.i64.wrap (crossW x0 y0 x1 y1 u0 v0 - crossW x0 y0 x1 y1 u1 v1)))) (unWs (spotF (unNum (resBy [resWhole [F.int .i64 u0], numF (IntKind.i64.wrap (crossW x0 y0 x1 y1 u0 v0 - crossW x0 y0 x1 y1 u1 v1))]) + unNum (resBy [resWhole [F.int .i64 (crossW x0 y0 x1 y1 u0 v0)], resWhole [F.int .i64 (IntKind.i64.wrap (u1 - u0))]])) (unNum (resBy [resWhole [F.int .i64 v0], numF (IntKind.i64.wrap (crossW x0 y0 x1 y1 u0 v0 - crossW x0 y0 x1 y1 u1 v1))]) + unNum (resBy [resWhole [F.int .i64 (crossW x0 y0 x1 y1 u0 v0)], resWhole [F.int .i64 (IntKind.i64.wrap (v1 - v0))]])) (IntKind.i64.wrap (crossW x0 y0 x1 y1 u0 v0 - crossW x0 y0 x1 y1 u1 v1))))), F.int .u64 (ptWV 7 (unXs (spotF (unNum (resBy [resWhole [F.int .i64 u0], numF (IntKind.i64.wrap (crossW x0 y0 x1 y1 u0 v0 - crossW x0 y0 x1 y1 u1 v1))]) + unNum (resBy [resWhole [F.int .i64 (crossW x0 y0 x1 y1 u0 v0)], resWhole [F.int .i64 (IntKind.i64.wrap (u1 - u0))]])) (unNum (resBy [resWhole [F.int .i64 v0], numF (IntKind.i64.wrap (crossW x0 y0 x1 y1 u0 v0 - crossW x0 y0 x1 y1 u1 v1))]) + unNum (resBy [resWhole [F.int .i64 (crossW x0 y0 x1 y1 u0 v0)], resWhole [F.int .i64 (IntKind.i64.wrap (v1 - v0))]])) (IntKind.i64.wrap (crossW x0 y0 x1 y1 u0 v0 - crossW x0 y0 x1 y1 u1 v1)))) (unYs (spotF (unNum (resBy [resWhole [F.int .i64 u0], numF (IntKind.i64.wrap (crossW x0 y0 x1 y1 u0 v0 - crossW x0 y0 x1 y1 u1 v1))]) + unNum (resBy [resWhole [F.int .i64 (crossW x0 y0 x1 y1 u0 v0)], resWhole [F.int .i64 (IntKind.i64.wrap (u1 - u0))]])) (unNum (resBy [resWhole [F.int .i64 v0], numF (IntKind.i64.wrap (crossW x0 y0 x1 y1 u0 v0 - crossW x0 y0 x1 y1 u1 v1))]) + unNum (resBy [resWhole [F.int .i64 (crossW x0 y0 x1 y1 u0 v0)], resWhole [F.int .i64 (IntKind.i64.wrap (v1 - v0))]])) (IntKind.i64.wrap (crossW x0 y0 x1 y1 u0 v0 - crossW x0 y0 x1 y1 u1 v1)))) (unWs (spotF (unNum (resBy [resWhole [F.int .i64 u0], numF (IntKind.i64.wrap (crossW x0 y0 x1 y1 u0 v0 - crossW x0 y0 x1 y1 u1 v1))]) + unNum (resBy [resWhole [F.int .i64 (crossW x0 y0 x1 y1 u0 v0)], resWhole [F.int .i64 (IntKind.i64.wrap (u1 - u0))]])) (unNum (resBy [resWhole [F.int .i64 v0], numF (IntKind.i64.wrap (crossW x0 y0 x1 y1 u0 v0 - crossW x0 y0 x1 y1 u1 v1))]) + unNum (resBy [resWhole [F.int .i64 (crossW x0 y0 x1 y1 u0 v0)], resWhole [F.int .i64 (IntKind.i64.wrap (v1 - v0))]])) (IntKind.i64.wrap (crossW x0 y0 x1 y1 u0 v0 - crossW x0 y0 x1 y1 u1 v1))))), F.int .u64 (ptWV 8 (unXs (spotF (unNum (resBy [resWhole [F.int .i64 u0], numF (IntKind.i64.wrap (crossW x0 y0 x1 y1 u0 v0 - crossW x0 y0 x1 y1 u1 v1))]) + unNum (resBy [resWhole [F.int .i64 (crossW x0 y0 x1 y1 u0 v0)], resWhole [F.int .i64 (IntKind.i64.wrap (u1 - u0))]])) (unNum (resBy [resWhole [F.int .i64 v0], numF (IntKind.i64.wrap (crossW x0 y0 x1 y1 u0 v0 - crossW x0 y0 x1 y1 u1 v1))]) + unNum (resBy [resWhole [F.int .i64 (crossW x0 y0 x1 y1 u0 v0)], resWhole [F.int .i64 (IntKind.i64.wrap (v1 - v0))]])) (IntKind.i64.wrap (crossW x0 y0 x1 y1 u0 v0 - crossW x0 y0 x1 y1 u1 v1)))) (unYs (spotF (unNum (resBy [resWhole [F.int .i64 u0], numF (IntKind.i64.wrap (crossW x0 y0 x1 y1 u0 v0 - crossW x0 y0 x1 y1 u1 v1))]) + unNum (resBy [resWhole [F.int .i64 (crossW x0 y0 x1 y1 u0 v0)], resWhole [F.int .i64 (IntKind.i64.wrap (u1 - u0))]])) (unNum (resBy [resWhole [F.int .i64 v0], numF (IntKind.i64.wrap (crossW x0 y0 x1 y1 u0 v0 - crossW x0 y0 x1 y1 u1 v1))]) + unNum (resBy [resWhole [F.int .i64 (crossW x0 y0 x1 y1 u0 v0)], resWhole [F.int .i64 (IntKind.i64.wrap (v1 - v0))]])) (IntKind.i64.wrap (crossW x0 y0 x1 y1 u0 v0 - crossW x0 y0 x1 y1 u1 v1)))) (unWs (spotF (unNum (resBy [resWhole [F.int .i64 u0], numF (IntKind.i64.wrap (crossW x0 y0 x1 y1 u0 v0 - crossW x0 y0 x1 y1 u1 v1))]) + unNum (resBy [resWhole [F.int .i64 (crossW x0 y0 x1 y1 u0 v0)], resWhole [F.int .i64 (IntKind.i64.wrap (u1 - u0))]])) (unNum (resBy [resWhole [F.int .i64 v0], numF (IntKind.i64.wrap (crossW x0 y0 x1 y1 u0 v0 - crossW x0 y0 x1 y1 u1 v1))]) + unNum (resBy [resWhole [F.int .i64 (crossW x0 y0 x1 y1 u0 v0)], resWhole [F.int .i64 (IntKind.i64.wrap (v1 - v0))]])) (IntKind.i64.wrap (crossW x0 y0 x1 y1 u0 v0 - crossW x0 y0 x1 y1 u1 v1))))), F.int .u64 (ptWV 9 (unXs (spotF (unNum (resBy [resWhole [F.int .i64 u0], numF (IntKind.i64.wrap (crossW x0 y0 x1 y1 u0 v0 - crossW x0 y0 x1 y1 u1 v1))]) + unNum (resBy [resWhole [F.int .i64 (crossW x0 y0 x1 y1 u0 v0)], resWhole [F.int .i64 (IntKind.i64.wrap (u1 - u0))]])) (unNum (resBy [resWhole [F.int .i64 v0], numF (IntKind.i64.wrap (crossW x0 y0 x1 y1 u0 v0 - crossW x0 y0 x1 y1 u1 v1))]) + unNum (resBy [resWhole [F.int .i64 (crossW x0 y0 x1 y1 u0 v0)], resWhole [F.int .i64 (IntKind.i64.wrap (v1 - v0))]])) (IntKind.i64.wrap (crossW x0 y0 x1 y1 u0 v0 - crossW x0 y0 x1 y1 u1 v1)))) (unYs (spotF (unNum (resBy [resWhole [F.int .i64 u0], numF (IntKind.i64.wrap (crossW x0 y0 x1 y1 u0 v0 - crossW x0 y0 x1 y1 u1 v1))]) + unNum (resBy [resWhole [F.int .i64 (crossW x0 y0 x1 y1 u0 v0)], resWhole [F.int .i64 (IntKind.i64.wrap (u1 - u0))]])) (unNum (resBy [resWhole [F.int .i64 v0], numF (IntKind.i64.wrap (crossW x0 y0 x1 y1 u0 v0 - crossW x0 y0 x1 y1 u1 v1))]) + unNum (resBy [resWhole [F.int .i64 (crossW x0 y0 x1 y1 u0 v0)], resWhole [F.int .i64 (IntKind.i64.wrap (v1 - v0))]])) (IntKind.i64.wrap (crossW x0 y0 x1 y1 u0 v0 - crossW x0 y0 x1 y1 u1 v1)))) (unWs (spotF (unNum (resBy [resWhole [F.int .i64 u0], numF (IntKind.i64.wrap (crossW x0 y0 x1 y1 u0 v0 - crossW x0 y0 x1 y1 u1 v1))]) + unNum (resBy [resWhole [F.int .i64 (crossW x0 y0 x1 y1 u0 v0)], resWhole [F.int .i64 (IntKind.i64.wrap (u1 - u0))]])) (unNum (resBy [resWhole [F.int .i64 v0], numF (IntKind.i64.wrap (crossW x0 y0 x1 y1 u0 v0 - crossW x0 y0 x1 y1 u1 v1))]) + unNum (resBy [resWhole [F.int .i64 (crossW x0 y0 x1 y1 u0 v0)], resWhole [F.int .i64 (IntKind.i64.wrap (v1 - v0))]])) (IntKind.i64.wrap (crossW x0 y0 x1 y1 u0 v0 - crossW x0 y0 x1 y1 u1 v1))))), F.int .u64 (ptWV 10 (unXs (spotF (unNum (resBy [resWhole [F.int .i64 u0], numF (IntKind.i64.wrap (crossW x0 y0 x1 y1 u0 v0 - crossW x0 y0 x1 y1 u1 v1))]) + unNum (resBy [resWhole [F.int .i64 (crossW x0 y0 x1 y1 u0 v0)], resWhole [F.int .i64 (IntKind.i64.wrap (u1 - u0))]])) (unNum (resBy [resWhole [F.int .i64 v0], numF (IntKind.i64.wrap (crossW x0 y0 x1 y1 u0 v0 - crossW x0 y0 x1 y1 u1 v1))]) + unNum (resBy [resWhole [F.int .i64 (crossW x0 y0 x1 y1 u0 v0)], resWhole [F.int .i64 (IntKind.i64.wrap (v1 - v0))]])) (IntKind.i64.wrap (crossW x0 y0 x1 y1 u0 v0 - crossW x0 y0 x1 y1 u1 v1)))) (unYs (spotF (unNum (resBy [resWhole [F.int .i64 u0], numF (IntKind.i64.wrap (crossW x0 y0 x1 y1 u0 v0 - crossW x0 y0 x1 y1 u1 v1))]) + unNum (resBy [resWhole [F.int .i64 (crossW x0 y0 x1 y1 u0 v0)], resWhole [F.int .i64 (IntKind.i64.wrap (u1 - u0))]])) (unNum (resBy [resWhole [F.int .i64 v0], numF (IntKind.i64.wrap (crossW x0 y0 x1 y1 u0 v0 - crossW x0 y0 x1 y1 u1 v1))]) + unNum (resBy [resWhole [F.int .i64 (crossW x0 y0 x1 y1 u0 v0)], resWhole [F.int .i64 (IntKind.i64.wrap (v1 - v0))]])) (IntKind.i64.wrap (crossW x0 y0 x1 y1 u0 v0 - crossW x0 y0 x1 y1 u1 v1)))) (unWs (spotF (unNum (resBy [resWhole [F.int .i64 u0], numF (IntKind.i64.wrap (crossW x0 y0 x1 y1 u0 v0 - crossW x0 y0 x1 y1 u1 v1))]) + unNum (resBy [resWhole [F.int .i64 (crossW x0 y0 x1 y1 u0 v0)], resWhole [F.int .i64 (IntKind.i64.wrap (u1 - u0))]])) (unNum (resBy [resWhole [F.int .i64 v0], numF (IntKind.i64.wrap (crossW x0 y0 x1 y1 u0 v0 - crossW x0 y0 x1 y1 u1 v1))]) + unNum (resBy [resWhole [F.int .i64 (crossW x0 y0 x1 y1 u0 v0)], resWhole [F.int .i64 (IntKind.i64.wrap (v1 - v0))]])) (IntKind.i64.wrap (crossW x0 y0 x1 y1 u0 v0 - crossW x0 y0 x1 y1 u1 v1))))), F.int .u64 (ptWV 11 (unXs (spotF (unNum (resBy [resWhole [F.int .i64 u0], numF (IntKind.i64.wrap (crossW x0 y0 x1 y1 u0 v0 - crossW x0 y0 x1 y1 u1 v1))]) + unNum (resBy [resWhole [F.int .i64 (crossW x0 y0 x1 y1 u0 v0)], resWhole [F.int .i64 (IntKind.i64.wrap (u1 - u0))]])) (unNum (resBy [resWhole [F.int .i64 v0], numF (IntKind.i64.wrap (crossW x0 y0 x1 y1 u0 v0 - crossW x0 y0 x1 y1 u1 v1))]) + unNum (resBy [resWhole [F.int .i64 (crossW x0 y0 x1 y1 u0 v0)], resWhole [F.int .i64 (IntKind.i64.wrap (v1 - v0))]])) (IntKind.i64.wrap (crossW x0 y0 x1 y1 u0 v0 - crossW x0 y0 x1 y1 u1 v1)))) (unYs (spotF (unNum (resBy [resWhole [F.int .i64 u0], numF (IntKind.i64.wrap (crossW x0 y0 x1 y1 u0 v0 - crossW x0 y0 x1 y1 u1 v1))]) + unNum (resBy [resWhole [F.int .i64 (crossW x0 y0 x1 y1 u0 v0)], resWhole [F.int .i64 (IntKind.i64.wrap (u1 - u0))]])) (unNum (resBy [resWhole [F.int .i64 v0], numF (IntKind.i64.wrap (crossW x0 y0 x1 y1 u0 v0 - crossW x0 y0 x1 y1 u1 v1))]) + unNum (resBy [resWhole [F.int .i64 (crossW x0 y0 x1 y1 u0 v0)], resWhole [F.int .i64 (IntKind.i64.wrap (v1 - v0))]])) (IntKind.i64.wrap (crossW x0 y0 x1 y1 u0 v0 - crossW x0 y0 x1 y1 u1 v1)))) (unWs (spotF (unNum (resBy [resWhole [F.int .i64 u0], numF (IntKind.i64.wrap (crossW x0 y0 x1 y1 u0 v0 - crossW x0 y0 x1 y1 u1 v1))]) + unNum (resBy [resWhole [F.int .i64 (crossW x0 y0 x1 y1 u0 v0)], resWhole [F.int .i64 (IntKind.i64.wrap (u1 - u0))]])) (unNum (resBy [resWhole [F.int .i64 v0], numF (IntKind.i64.wrap (crossW x0 y0 x1 y1 u0 v0 - crossW x0 y0 x1 y1 u1 v1))]) + unNum (resBy [resWhole [F.int .i64 (crossW x0 y0 x1 y1 u0 v0)], resWhole [F.int .i64 (IntKind.i64.wrap (v1 - v0))]])) (IntKind.i64.wrap (crossW x0 y0 x1 y1 u0 v0 - crossW x0 y0 x1 y1 u1 v1)))))], F.agg [F.int .u64 0, F.int .u64 0, F.int .u64 0, F.int .u64 0, F.int .u64 0, F.int .u64 0, F.int .u64 0, F.int .u64 0, F.int .u64 0, F.int .u64 0, F.int .u64 0, F.int .u64 0]]))
 none)
 none)
 none)
 none)
 none)
 none)
 none)
 none)
 none)
 none)
 none)
 none)
 none)
 none))
 (ret (F.tup [F.int .i64 0, F.agg [F.int .u64 0, F.int .u64 0, F.int .u64 0, F.int .u64 0, F.int .u64 0, F.int .u64 0, F.int .u64 0, F.int .u64 0, F.int .u64 0, F.int .u64 0, F.int .u64 0, F.int .u64 0], F.agg [F.int .u64 0, F.int .u64 0, F.int .u64 0, F.int .u64 0, F.int .u64 0, F.int .u64 0, F.int .u64 0, F.int .u64 0, F.int .u64 0, F.int .u64 0, F.int .u64 0, F.int .u64 0]]))))
 (bsel (decide (IntKind.i64.wrap (signV (crossW x0 y0 x1 y1 u0 v0) * signV (crossW x0 y0 x1 y1 u1 v1)) > 0) == false)
 (bsel (decide (IntKind.i64.wrap (signV (crossW u0 v0 u1 v1 x0 y0) * signV (crossW u0 v0 u1 v1 x1 y1)) > 0))
 (ret (F.tup [F.int .i64 0, F.agg [F.int .u64 0, F.int .u64 0, F.int .u64 0, F.int .u64 0, F.int .u64 0, F.int .u64 0, F.int .u64 0, F.int .u64 0, F.int .u64 0, F.int .u64 0, F.int .u64 0, F.int .u64 0], F.agg [F.int .u64 0, F.int .u64 0, F.int .u64 0, F.int .u64 0, F.int .u64 0, F.int .u64 0, F.int .u64 0, F.int .u64 0, F.int .u64 0, F.int .u64 0, F.int .u64 0, F.int .u64 0]]))
 (bsel (isI64 (IntKind.i64.wrap (crossW x0 y0 x1 y1 u0 v0 - crossW x0 y0 x1 y1 u1 v1)))
 (bsel (isI64 u0)
 (bsel (isNum 400 (resWhole [F.int .i64 u0]) && isNum 400 (numF (IntKind.i64.wrap (crossW x0 y0 x1 y1 u0 v0 - crossW x0 y0 x1 y1 u1 v1))))
 (bsel (isI64 (crossW x0 y0 x1 y1 u0 v0))
 (bsel (isI64 (IntKind.i64.wrap (u1 - u0)))
 (bsel (isNum 400 (resWhole [F.int .i64 (crossW x0 y0 x1 y1 u0 v0)]) && isNum 400 (resWhole [F.int .i64 (IntKind.i64.wrap (u1 - u0))]))
 (bsel (isNum 400 (resBy [resWhole [F.int .i64 u0], numF (IntKind.i64.wrap (crossW x0 y0 x1 y1 u0 v0 - crossW x0 y0 x1 y1 u1 v1))]) && isNum 400 (resBy [resWhole [F.int .i64 (crossW x0 y0 x1 y1 u0 v0)], resWhole [F.int .i64 (IntKind.i64.wrap (u1 - u0))]]))
 (bsel (isI64 v0)
 (bsel (isNum 400 (resWhole [F.int .i64 v0]) && isNum 400 (numF (IntKind.i64.wrap (crossW x0 y0 x1 y1 u0 v0 - crossW x0 y0 x1 y1 u1 v1))))
 (bsel (isI64 (crossW x0 y0 x1 y1 u0 v0))
 (bsel (isI64 (IntKind.i64.wrap (v1 - v0)))
 (bsel (isNum 400 (resWhole [F.int .i64 (crossW x0 y0 x1 y1 u0 v0)]) && isNum 400 (resWhole [F.int .i64 (IntKind.i64.wrap (v1 - v0))]))
 (bsel (isNum 400 (resBy [resWhole [F.int .i64 v0], numF (IntKind.i64.wrap (crossW x0 y0 x1 y1 u0 v0 - crossW x0 y0 x1 y1 u1 v1))]) && isNum 400 (resBy [resWhole [F.int .i64 (crossW x0 y0 x1 y1 u0 v0)], resWhole [F.int .i64 (IntKind.i64.wrap (v1 - v0))]]))
 (bsel (isSpot3 1 (spotF (unNum (resBy [resWhole [F.int .i64 u0], numF (IntKind.i64.wrap (crossW x0 y0 x1 y1 u0 v0 - crossW x0 y0 x1 y1 u1 v1))]) + unNum (resBy [resWhole [F.int .i64 (crossW x0 y0 x1 y1 u0 v0)], resWhole [F.int .i64 (IntKind.i64.wrap (u1 - u0))]])) (unNum (resBy [resWhole [F.int .i64 v0], numF (IntKind.i64.wrap (crossW x0 y0 x1 y1 u0 v0 - crossW x0 y0 x1 y1 u1 v1))]) + unNum (resBy [resWhole [F.int .i64 (crossW x0 y0 x1 y1 u0 v0)], resWhole [F.int .i64 (IntKind.i64.wrap (v1 - v0))]])) (IntKind.i64.wrap (crossW x0 y0 x1 y1 u0 v0 - crossW x0 y0 x1 y1 u1 v1))))
 (ret (F.tup [F.int .i64 1, F.agg [F.int .u64 (ptWV 0 (unXs (spotF (unNum (resBy [resWhole [F.int .i64 u0], numF (IntKind.i64.wrap (crossW x0 y0 x1 y1 u0 v0 - crossW x0 y0 x1 y1 u1 v1))]) + unNum (resBy [resWhole [F.int .i64 (crossW x0 y0 x1 y1 u0 v0)], resWhole [F.int .i64 (IntKind.i64.wrap (u1 - u0))]])) (unNum (resBy [resWhole [F.int .i64 v0], numF (IntKind.i64.wrap (crossW x0 y0 x1 y1 u0 v0 - crossW x0 y0 x1 y1 u1 v1))]) + unNum (resBy [resWhole [F.int .i64 (crossW x0 y0 x1 y1 u0 v0)], resWhole [F.int .i64 (IntKind.i64.wrap (v1 - v0))]])) (IntKind.i64.wrap (crossW x0 y0 x1 y1 u0 v0 - crossW x0 y0 x1 y1 u1 v1)))) (unYs (spotF (unNum (resBy [resWhole [F.int .i64 u0], numF (IntKind.i64.wrap (crossW x0 y0 x1 y1 u0 v0 - crossW x0 y0 x1 y1 u1 v1))]) + unNum (resBy [resWhole [F.int .i64 (crossW x0 y0 x1 y1 u0 v0)], resWhole [F.int .i64 (IntKind.i64.wrap (u1 - u0))]])) (unNum (resBy [resWhole [F.int .i64 v0], numF (IntKind.i64.wrap (crossW x0 y0 x1 y1 u0 v0 - crossW x0 y0 x1 y1 u1 v1))]) + unNum (resBy [resWhole [F.int .i64 (crossW x0 y0 x1 y1 u0 v0)], resWhole [F.int .i64 (IntKind.i64.wrap (v1 - v0))]])) (IntKind.i64.wrap (crossW x0 y0 x1 y1 u0 v0 - crossW x0 y0 x1 y1 u1 v1)))) (unWs (spotF (unNum (resBy [resWhole [F.int .i64 u0], numF (IntKind.i64.wrap (crossW x0 y0 x1 y1 u0 v0 - crossW x0 y0 x1 y1 u1 v1))]) + unNum (resBy [resWhole [F.int .i64 (crossW x0 y0 x1 y1 u0 v0)], resWhole [F.int .i64 (IntKind.i64.wrap (u1 - u0))]])) (unNum (resBy [resWhole [F.int .i64 v0], numF (IntKind.i64.wrap (crossW x0 y0 x1 y1 u0 v0 - crossW x0 y0 x1 y1 u1 v1))]) + unNum (resBy [resWhole [F.int .i64 (crossW x0 y0 x1 y1 u0 v0)], resWhole [F.int .i64 (IntKind.i64.wrap (v1 - v0))]])) (IntKind.i64.wrap (crossW x0 y0 x1 y1 u0 v0 - crossW x0 y0 x1 y1 u1 v1))))), F.int .u64 (ptWV 1 (unXs (spotF (unNum (resBy [resWhole [F.int .i64 u0], numF (IntKind.i64.wrap (crossW x0 y0 x1 y1 u0 v0 - crossW x0 y0 x1 y1 u1 v1))]) + unNum (resBy [resWhole [F.int .i64 (crossW x0 y0 x1 y1 u0 v0)], resWhole [F.int .i64 (IntKind.i64.wrap (u1 - u0))]])) (unNum (resBy [resWhole [F.int .i64 v0], numF (IntKind.i64.wrap (crossW x0 y0 x1 y1 u0 v0 - crossW x0 y0 x1 y1 u1 v1))]) + unNum (resBy [resWhole [F.int .i64 (crossW x0 y0 x1 y1 u0 v0)], resWhole [F.int .i64 (IntKind.i64.wrap (v1 - v0))]])) (IntKind.i64.wrap (crossW x0 y0 x1 y1 u0 v0 - crossW x0 y0 x1 y1 u1 v1)))) (unYs (spotF (unNum (resBy [resWhole [F.int .i64 u0], numF (IntKind.i64.wrap (crossW x0 y0 x1 y1 u0 v0 - crossW x0 y0 x1 y1 u1 v1))]) + unNum (resBy [resWhole [F.int .i64 (crossW x0 y0 x1 y1 u0 v0)], resWhole [F.int .i64 (IntKind.i64.wrap (u1 - u0))]])) (unNum (resBy [resWhole [F.int .i64 v0], numF (IntKind.i64.wrap (crossW x0 y0 x1 y1 u0 v0 - crossW x0 y0 x1 y1 u1 v1))]) + unNum (resBy [resWhole [F.int .i64 (crossW x0 y0 x1 y1 u0 v0)], resWhole [F.int .i64 (IntKind.i64.wrap (v1 - v0))]])) (IntKind.i64.wrap (crossW x0 y0 x1 y1 u0 v0 - crossW x0 y0 x1 y1 u1 v1)))) (unWs (spotF (unNum (resBy [resWhole [F.int .i64 u0], numF (IntKind.i64.wrap (crossW x0 y0 x1 y1 u0 v0 - crossW x0 y0 x1 y1 u1 v1))]) + unNum (resBy [resWhole [F.int .i64 (crossW x0 y0 x1 y1 u0 v0)], resWhole [F.int .i64 (IntKind.i64.wrap (u1 - u0))]])) (unNum (resBy [resWhole [F.int .i64 v0], numF (IntKind.i64.wrap (crossW x0 y0 x1 y1 u0 v0 - crossW x0 y0 x1 y1 u1 v1))]) + unNum (resBy [resWhole [F.int .i64 (crossW x0 y0 x1 y1 u0 v0)], resWhole [F.int .i64 (IntKind.i64.wrap (v1 - v0))]])) (IntKind.i64.wrap (crossW x0 y0 x1 y1 u0 v0 - crossW x0 y0 x1 y1 u1 v1))))), F.int .u64 (ptWV 2 (unXs (spotF (unNum (resBy [resWhole [F.int .i64 u0], numF (IntKind.i64.wrap (crossW x0 y0 x1 y1 u0 v0 - crossW x0 y0 x1 y1 u1 v1))]) + unNum (resBy [resWhole [F.int .i64 (crossW x0 y0 x1 y1 u0 v0)], resWhole [F.int .i64 (IntKind.i64.wrap (u1 - u0))]])) (unNum (resBy [resWhole [F.int .i64 v0], numF (IntKind.i64.wrap (crossW x0 y0 x1 y1 u0 v0 - crossW x0 y0 x1 y1 u1 v1))]) + unNum (resBy [resWhole [F.int .i64 (crossW x0 y0 x1 y1 u0 v0)], resWhole [F.int .i64 (IntKind.i64.wrap (v1 - v0))]])) (IntKind.i64.wrap (crossW x0 y0 x1 y1 u0 v0 - crossW x0 y0 x1 y1 u1 v1)))) (unYs (spotF (unNum (resBy [resWhole [F.int .i64 u0], numF (IntKind.i64.wrap (crossW x0 y0 x1 y1 u0 v0 - crossW x0 y0 x1 y1 u1 v1))]) + unNum (resBy [resWhole [F.int .i64 (crossW x0 y0 x1 y1 u0 v0)], resWhole [F.int .i64 (IntKind.i64.wrap (u1 - u0))]])) (unNum (resBy [resWhole [F.int .i64 v0], numF (IntKind.i64.wrap (crossW x0 y0 x1 y1 u0 v0 - crossW x0 y0 x1 y1 u1 v1))]) + unNum (resBy [resWhole [F.int .i64 (crossW x0 y0 x1 y1 u0 v0)], resWhole [F.int .i64 (IntKind.i64.wrap (v1 - v0))]])) (IntKind.i64.wrap (crossW x0 y0 x1 y1 u0 v0 - crossW x0 y0 x1 y1 u1 v1)))) (unWs (spotF (unNum (resBy [resWhole [F.int .i64 u0], numF (IntKind.i64.wrap (crossW x0 y0 x1 y1 u0 v0 - crossW x0 y0 x1 y1 u1 v1))]) + unNum (resBy [resWhole [F.int .i64 (crossW x0 y0 x1 y1 u0 v0)], resWhole [F.int .i64 (IntKind.i64.wrap (u1 - u0))]])) (unNum (resBy [resWhole [F.int .i64 v0], numF (IntKind.i64.wrap (crossW x0 y0 x1 y1 u0 v0 - crossW x0 y0 x1 y1 u1 v1))]) + unNum (resBy [resWhole [F.int .i64 (crossW x0 y0 x1 y1 u0 v0)], resWhole [F.int .i64 (IntKind.i64.wrap (v1 - v0))]])) (IntKind.i64.wrap (crossW x0 y0 x1 y1 u0 v0 - crossW x0 y0 x1 y1 u1 v1))))), F.int .u64 (ptWV 3 (unXs (spotF (unNum (resBy [resWhole [F.int .i64 u0], numF (IntKind.i64.wrap (crossW x0 y0 x1 y1 u0 v0 - crossW x0 y0 x1 y1 u1 v1))]) + unNum (resBy [resWhole [F.int .i64 (crossW x0 y0 x1 y1 u0 v0)], resWhole [F.int .i64 (IntKind.i64.wrap (u1 - u0))]])) (unNum (resBy [resWhole [F.int .i64 v0], numF (IntKind.i64.wrap (crossW x0 y0 x1 y1 u0 v0 - crossW x0 y0 x1 y1 u1 v1))]) + unNum (resBy [resWhole [F.int .i64 (crossW x0 y0 x1 y1 u0 v0)], resWhole [F.int .i64 (IntKind.i64.wrap (v1 - v0))]])) (IntKind.i64.wrap (crossW x0 y0 x1 y1 u0 v0 - crossW x0 y0 x1 y1 u1 v1)))) (unYs (spotF (unNum (resBy [resWhole [F.int .i64 u0], numF (IntKind.i64.wrap (crossW x0 y0 x1 y1 u0 v0 - crossW x0 y0 x1 y1 u1 v1))]) + unNum (resBy [resWhole [F.int .i64 (crossW x0 y0 x1 y1 u0 v0)], resWhole [F.int .i64 (IntKind.i64.wrap (u1 - u0))]])) (unNum (resBy [resWhole [F.int .i64 v0], numF (IntKind.i64.wrap (crossW x0 y0 x1 y1 u0 v0 - crossW x0 y0 x1 y1 u1 v1))]) + unNum (resBy [resWhole [F.int .i64 (crossW x0 y0 x1 y1 u0 v0)], resWhole [F.int .i64 (IntKind.i64.wrap (v1 - v0))]])) (IntKind.i64.wrap (crossW x0 y0 x1 y1 u0 v0 - crossW x0 y0 x1 y1 u1 v1)))) (unWs (spotF (unNum (resBy [resWhole [F.int .i64 u0], numF (IntKind.i64.wrap (crossW x0 y0 x1 y1 u0 v0 - crossW x0 y0 x1 y1 u1 v1))]) + unNum (resBy [resWhole [F.int .i64 (crossW x0 y0 x1 y1 u0 v0)], resWhole [F.int .i64 (IntKind.i64.wrap (u1 - u0))]])) (unNum (resBy [resWhole [F.int .i64 v0], numF (IntKind.i64.wrap (crossW x0 y0 x1 y1 u0 v0 - crossW x0 y0 x1 y1 u1 v1))]) + unNum (resBy [resWhole [F.int .i64 (crossW x0 y0 x1 y1 u0 v0)], resWhole [F.int .i64 (IntKind.i64.wrap (v1 - v0))]])) (IntKind.i64.wrap (crossW x0 y0 x1 y1 u0 v0 - crossW x0 y0 x1 y1 u1 v1))))), F.int .u64 (ptWV 4 (unXs (spotF (unNum (resBy [resWhole [F.int .i64 u0], numF (IntKind.i64.wrap (crossW x0 y0 x1 y1 u0 v0 - crossW x0 y0 x1 y1 u1 v1))]) + unNum (resBy [resWhole [F.int .i64 (crossW x0 y0 x1 y1 u0 v0)], resWhole [F.int .i64 (IntKind.i64.wrap (u1 - u0))]])) (unNum (resBy [resWhole [F.int .i64 v0], numF (IntKind.i64.wrap (crossW x0 y0 x1 y1 u0 v0 - crossW x0 y0 x1 y1 u1 v1))]) + unNum (resBy [resWhole [F.int .i64 (crossW x0 y0 x1 y1 u0 v0)], resWhole [F.int .i64 (IntKind.i64.wrap (v1 - v0))]])) (IntKind.i64.wrap (crossW x0 y0 x1 y1 u0 v0 - crossW x0 y0 x1 y1 u1 v1)))) (unYs (spotF (unNum (resBy [resWhole [F.int .i64 u0], numF (IntKind.i64.wrap (crossW x0 y0 x1 y1 u0 v0 - crossW x0 y0 x1 y1 u1 v1))]) + unNum (resBy [resWhole [F.int .i64 (crossW x0 y0 x1 y1 u0 v0)], resWhole [F.int .i64 (IntKind.i64.wrap (u1 - u0))]])) (unNum (resBy [resWhole [F.int .i64 v0], numF (IntKind.i64.wrap (crossW x0 y0 x1 y1 u0 v0 - crossW x0 y0 x1 y1 u1 v1))]) + unNum (resBy [resWhole [F.int .i64 (crossW x0 y0 x1 y1 u0 v0)], resWhole [F.int .i64 (IntKind.i64.wrap (v1 - v0))]])) (IntKind.i64.wrap (crossW x0 y0 x1 y1 u0 v0 - crossW x0 y0 x1 y1 u1 v1)))) (unWs (spotF (unNum (resBy [resWhole [F.int .i64 u0], numF (IntKind.i64.wrap (crossW x0 y0 x1 y1 u0 v0 - crossW x0 y0 x1 y1 u1 v1))]) + unNum (resBy [resWhole [F.int .i64 (crossW x0 y0 x1 y1 u0 v0)], resWhole [F.int .i64 (IntKind.i64.wrap (u1 - u0))]])) (unNum (resBy [resWhole [F.int .i64 v0], numF (IntKind.i64.wrap (crossW x0 y0 x1 y1 u0 v0 - crossW x0 y0 x1 y1 u1 v1))]) + unNum (resBy [resWhole [F.int .i64 (crossW x0 y0 x1 y1 u0 v0)], resWhole [F.int .i64 (IntKind.i64.wrap (v1 - v0))]])) (IntKind.i64.wrap (crossW x0 y0 x1 y1 u0 v0 - crossW x0 y0 x1 y1 u1 v1))))), F.int .u64 (ptWV 5 (unXs (spotF (unNum (resBy [resWhole [F.int .i64 u0], numF (IntKind.i64.wrap (crossW x0 y0 x1 y1 u0 v0 - crossW x0 y0 x1 y1 u1 v1))]) + unNum (resBy [resWhole [F.int .i64 (crossW x0 y0 x1 y1 u0 v0)], resWhole [F.int .i64 (IntKind.i64.wrap (u1 - u0))]])) (unNum (resBy [resWhole [F.int .i64 v0], numF (IntKind.i64.wrap (crossW x0 y0 x1 y1 u0 v0 - crossW x0 y0 x1 y1 u1 v1))]) + unNum (resBy [resWhole [F.int .i64 (crossW x0 y0 x1 y1 u0 v0)], resWhole [F.int .i64 (IntKind.i64.wrap (v1 - v0))]])) (IntKind.i64.wrap (crossW x0 y0 x1 y1 u0 v0 - crossW x0 y0 x1 y1 u1 v1)))) (unYs (spotF (unNum (resBy [resWhole [F.int .i64 u0], numF (IntKind.i64.wrap (crossW x0 y0 x1 y1 u0 v0 - crossW x0 y0 x1 y1 u1 v1))]) + unNum (resBy [resWhole [F.int .i64 (crossW x0 y0 x1 y1 u0 v0)], resWhole [F.int .i64 (IntKind.i64.wrap (u1 - u0))]])) (unNum (resBy [resWhole [F.int .i64 v0], numF (IntKind.i64.wrap (crossW x0 y0 x1 y1 u0 v0 - crossW x0 y0 x1 y1 u1 v1))]) + unNum (resBy [resWhole [F.int .i64 (crossW x0 y0 x1 y1 u0 v0)], resWhole [F.int .i64 (IntKind.i64.wrap (v1 - v0))]])) (IntKind.i64.wrap (crossW x0 y0 x1 y1 u0 v0 - crossW x0 y0 x1 y1 u1 v1)))) (unWs (spotF (unNum (resBy [resWhole [F.int .i64 u0], numF (IntKind.i64.wrap (crossW x0 y0 x1 y1 u0 v0 - crossW x0 y0 x1 y1 u1 v1))]) + unNum (resBy [resWhole [F.int .i64 (crossW x0 y0 x1 y1 u0 v0)], resWhole [F.int .i64 (IntKind.i64.wrap (u1 - u0))]])) (unNum (resBy [resWhole [F.int .i64 v0], numF (IntKind.i64.wrap (crossW x0 y0 x1 y1 u0 v0 - crossW x0 y0 x1 y1 u1 v1))]) + unNum (resBy [resWhole [F.int .i64 (crossW x0 y0 x1 y1 u0 v0)], resWhole [F.int .i64 (IntKind.i64.wrap (v1 - v0))]])) (IntKind.i64.wrap (crossW x0 y0 x1 y1 u0 v0 - crossW x0 y0 x1 y1 u1 v1))))), F.int .u64 (ptWV 6 (unXs (spotF (unNum (resBy [resWhole [F.int .i64 u0], numF (IntKind.i64.wrap (crossW x0 y0 x1 y1 u0 v0 - crossW x0 y0 x1 y1 u1 v1))]) + unNum (resBy [resWhole [F.int .i64 (crossW x0 y0 x1 y1 u0 v0)], resWhole [F.int .i64 (IntKind.i64.wrap (u1 - u0))]])) (unNum (resBy [resWhole [F.int .i64 v0], numF (IntKind.i64.wrap (crossW x0 y0 x1 y1 u0 v0 - crossW x0 y0 x1 y1 u1 v1))]) + unNum (resBy [resWhole [F.int .i64 (crossW x0 y0 x1 y1 u0 v0)], resWhole [F.int .i64 (IntKind.i64.wrap (v1 - v0))]])) (IntKind.i64.wrap (crossW x0 y0 x1 y1 u0 v0 - crossW x0 y0 x1 y1 u1 v1)))) (unYs (spotF (unNum (resBy [resWhole [F.int .i64 u0], numF (IntKind.i64.wrap (crossW x0 y0 x1 y1 u0 v0 - crossW x0 y0 x1 y1 u1 v1))]) + unNum (resBy [resWhole [F.int .i64 (crossW x0 y0 x1 y1 u0 v0)], resWhole [F.int .i64 (IntKind.i64.wrap (u1 - u0))]])) (unNum (resBy [resWhole [F.int .i64 v0], numF (IntKind.i64.wrap (crossW x0 y0 x1 y1 u0 v0 - crossW x0 y0 x1 y1 u1 v1))]) + unNum (resBy [resWhole [F.int .i64 (crossW x0 y0 x1 y1 u0 v0)], resWhole [F.int .i64 (IntKind.i64.wrap (v1 - v0))]])) (IntKind.i64.wrap (crossW x0 y0 x1 y1 u0 v0 - crossW x0 y0 x1 y1 u1 v1)))) (unWs (spotF (unNum (resBy [resWhole [F.int .i64 u0], numF (IntKind.i64.wrap (crossW x0 y0 x1 y1 u0 v0 - crossW x0 y0 x1 y1 u1 v1))]) + unNum (resBy [resWhole [F.int .i64 (crossW x0 y0 x1 y1 u0 v0)], resWhole [F.int .i64 (IntKind.i64.wrap (u1 - u0))]])) (unNum (resBy [resWhole [F.int .i64 v0], numF (IntKind.i64.wrap (crossW x0 y0 x1 y1 u0 v0 - crossW x0 y0 x1 y1 u1 v1))]) + unNum (resBy [resWhole [F.int .i64 (crossW x0 y0 x1 y1 u0 v0)], resWhole [F.int .i64 (IntKind.i64.wrap (v1 - v0))]])) (IntKind.i64.wrap (crossW x0 y0 x1 y1 u0 v0 - crossW x0 y0 x1 y1 u1 v1))))), F.int .u64 (ptWV 7 (unXs (spotF (unNum (resBy [resWhole [F.int .i64 u0], numF (IntKind.i64.wrap (crossW x0 y0 x1 y1 u0 v0 - crossW x0 y0 x1 y1 u1 v1))]) + unNum (resBy [resWhole [F.int .i64 (crossW x0 y0 x1 y1 u0 v0)], resWhole [F.int .i64 (IntKind.i64.wrap (u1 - u0))]])) (unNum (resBy [resWhole [F.int .i64 v0], numF (IntKind.i64.wrap (crossW x0 y0 x1 y1 u0 v0 - crossW x0 y0 x1 y1 u1 v1))]) + unNum (resBy [resWhole [F.int .i64 (crossW x0 y0 x1 y1 u0 v0)], resWhole [F.int .i64 (IntKind.i64.wrap (v1 - v0))]])) (IntKind.i64.wrap (crossW x0 y0 x1 y1 u0 v0 - crossW x0 y0 x1 y1 u1 v1)))) (unYs (spotF (unNum (resBy [resWhole [F.int .i64 u0], numF (IntKind.i64.wrap (crossW x0 y0 x1 y1 u0 v0 - crossW x0 y0 x1 y1 u1 v1))]) + unNum (resBy [resWhole [F.int .i64 (crossW x0 y0 x1 y1 u0 v0)], resWhole [F.int .i64 (IntKind.i64.wrap (u1 - u0))]])) (unNum (resBy [resWhole [F.int .i64 v0], numF (IntKind.i64.wrap (crossW x0 y0 x1 y1 u0 v0 - crossW x0 y0 x1 y1 u1 v1))]) + unNum (resBy [resWhole [F.int .i64 (crossW x0 y0 x1 y1 u0 v0)], resWhole [F.int .i64 (IntKind.i64.wrap (v1 - v0))]])) (IntKind.i64.wrap (crossW x0 y0 x1 y1 u0 v0 - crossW x0 y0 x1 y1 u1 v1)))) (unWs (spotF (unNum (resBy [resWhole [F.int .i64 u0], numF (IntKind.i64.wrap (crossW x0 y0 x1 y1 u0 v0 - crossW x0 y0 x1 y1 u1 v1))]) + unNum (resBy [resWhole [F.int .i64 (crossW x0 y0 x1 y1 u0 v0)], resWhole [F.int .i64 (IntKind.i64.wrap (u1 - u0))]])) (unNum (resBy [resWhole [F.int .i64 v0], numF (IntKind.i64.wrap (crossW x0 y0 x1 y1 u0 v0 - crossW x0 y0 x1 y1 u1 v1))]) + unNum (resBy [resWhole [F.int .i64 (crossW x0 y0 x1 y1 u0 v0)], resWhole [F.int .i64 (IntKind.i64.wrap (v1 - v0))]])) (IntKind.i64.wrap (crossW x0 y0 x1 y1 u0 v0 - crossW x0 y0 x1 y1 u1 v1))))), F.int .u64 (ptWV 8 (unXs (spotF (unNum (resBy [resWhole [F.int .i64 u0], numF (IntKind.i64.wrap (crossW x0 y0 x1 y1 u0 v0 - crossW x0 y0 x1 y1 u1 v1))]) + unNum (resBy [resWhole [F.int .i64 (crossW x0 y0 x1 y1 u0 v0)], resWhole [F.int .i64 (IntKind.i64.wrap (u1 - u0))]])) (unNum (resBy [resWhole [F.int .i64 v0], numF (IntKind.i64.wrap (crossW x0 y0 x1 y1 u0 v0 - crossW x0 y0 x1 y1 u1 v1))]) + unNum (resBy [resWhole [F.int .i64 (crossW x0 y0 x1 y1 u0 v0)], resWhole [F.int .i64 (IntKind.i64.wrap (v1 - v0))]])) (IntKind.i64.wrap (crossW x0 y0 x1 y1 u0 v0 - crossW x0 y0 x1 y1 u1 v1)))) (unYs (spotF (unNum (resBy [resWhole [F.int .i64 u0], numF (IntKind.i64.wrap (crossW x0 y0 x1 y1 u0 v0 - crossW x0 y0 x1 y1 u1 v1))]) + unNum (resBy [resWhole [F.int .i64 (crossW x0 y0 x1 y1 u0 v0)], resWhole [F.int .i64 (IntKind.i64.wrap (u1 - u0))]])) (unNum (resBy [resWhole [F.int .i64 v0], numF (IntKind.i64.wrap (crossW x0 y0 x1 y1 u0 v0 - crossW x0 y0 x1 y1 u1 v1))]) + unNum (resBy [resWhole [F.int .i64 (crossW x0 y0 x1 y1 u0 v0)], resWhole [F.int .i64 (IntKind.i64.wrap (v1 - v0))]])) (IntKind.i64.wrap (crossW x0 y0 x1 y1 u0 v0 - crossW x0 y0 x1 y1 u1 v1)))) (unWs (spotF (unNum (resBy [resWhole [F.int .i64 u0], numF (IntKind.i64.wrap (crossW x0 y0 x1 y1 u0 v0 - crossW x0 y0 x1 y1 u1 v1))]) + unNum (resBy [resWhole [F.int .i64 (crossW x0 y0 x1 y1 u0 v0)], resWhole [F.int .i64 (IntKind.i64.wrap (u1 - u0))]])) (unNum (resBy [resWhole [F.int .i64 v0], numF (IntKind.i64.wrap (crossW x0 y0 x1 y1 u0 v0 - crossW x0 y0 x1 y1 u1 v1))]) + unNum (resBy [resWhole [F.int .i64 (crossW x0 y0 x1 y1 u0 v0)], resWhole [F.int .i64 (IntKind.i64.wrap (v1 - v0))]])) (IntKind.i64.wrap (crossW x0 y0 x1 y1 u0 v0 - crossW x0 y0 x1 y1 u1 v1))))), F.int .u64 (ptWV 9 (unXs (spotF (unNum (resBy [resWhole [F.int .i64 u0], numF (IntKind.i64.wrap (crossW x0 y0 x1 y1 u0 v0 - crossW x0 y0 x1 y1 u1 v1))]) + unNum (resBy [resWhole [F.int .i64 (crossW x0 y0 x1 y1 u0 v0)], resWhole [F.int .i64 (IntKind.i64.wrap (u1 - u0))]])) (unNum (resBy [resWhole [F.int .i64 v0], numF (IntKind.i64.wrap (crossW x0 y0 x1 y1 u0 v0 - crossW x0 y0 x1 y1 u1 v1))]) + unNum (resBy [resWhole [F.int .i64 (crossW x0 y0 x1 y1 u0 v0)], resWhole [F.int .i64 (IntKind.i64.wrap (v1 - v0))]])) (IntKind.i64.wrap (crossW x0 y0 x1 y1 u0 v0 - crossW x0 y0 x1 y1 u1 v1)))) (unYs (spotF (unNum (resBy [resWhole [F.int .i64 u0], numF (IntKind.i64.wrap (crossW x0 y0 x1 y1 u0 v0 - crossW x0 y0 x1 y1 u1 v1))]) + unNum (resBy [resWhole [F.int .i64 (crossW x0 y0 x1 y1 u0 v0)], resWhole [F.int .i64 (IntKind.i64.wrap (u1 - u0))]])) (unNum (resBy [resWhole [F.int .i64 v0], numF (IntKind.i64.wrap (crossW x0 y0 x1 y1 u0 v0 - crossW x0 y0 x1 y1 u1 v1))]) + unNum (resBy [resWhole [F.int .i64 (crossW x0 y0 x1 y1 u0 v0)], resWhole [F.int .i64 (IntKind.i64.wrap (v1 - v0))]])) (IntKind.i64.wrap (crossW x0 y0 x1 y1 u0 v0 - crossW x0 y0 x1 y1 u1 v1)))) (unWs (spotF (unNum (resBy [resWhole [F.int .i64 u0], numF (IntKind.i64.wrap (crossW x0 y0 x1 y1 u0 v0 - crossW x0 y0 x1 y1 u1 v1))]) + unNum (resBy [resWhole [F.int .i64 (crossW x0 y0 x1 y1 u0 v0)], resWhole [F.int .i64 (IntKind.i64.wrap (u1 - u0))]])) (unNum (resBy [resWhole [F.int .i64 v0], numF (IntKind.i64.wrap (crossW x0 y0 x1 y1 u0 v0 - crossW x0 y0 x1 y1 u1 v1))]) + unNum (resBy [resWhole [F.int .i64 (crossW x0 y0 x1 y1 u0 v0)], resWhole [F.int .i64 (IntKind.i64.wrap (v1 - v0))]])) (IntKind.i64.wrap (crossW x0 y0 x1 y1 u0 v0 - crossW x0 y0 x1 y1 u1 v1))))), F.int .u64 (ptWV 10 (unXs (spotF (unNum (resBy [resWhole [F.int .i64 u0], numF (IntKind.i64.wrap (crossW x0 y0 x1 y1 u0 v0 - crossW x0 y0 x1 y1 u1 v1))]) + unNum (resBy [resWhole [F.int .i64 (crossW x0 y0 x1 y1 u0 v0)], resWhole [F.int .i64 (IntKind.i64.wrap (u1 - u0))]])) (unNum (resBy [resWhole [F.int .i64 v0], numF (IntKind.i64.wrap (crossW x0 y0 x1 y1 u0 v0 - crossW x0 y0 x1 y1 u1 v1))]) + unNum (resBy [resWhole [F.int .i64 (crossW x0 y0 x1 y1 u0 v0)], resWhole [F.int .i64 (IntKind.i64.wrap (v1 - v0))]])) (IntKind.i64.wrap (crossW x0 y0 x1 y1 u0 v0 - crossW x0 y0 x1 y1 u1 v1)))) (unYs (spotF (unNum (resBy [resWhole [F.int .i64 u0], numF (IntKind.i64.wrap (crossW x0 y0 x1 y1 u0 v0 - crossW x0 y0 x1 y1 u1 v1))]) + unNum (resBy [resWhole [F.int .i64 (crossW x0 y0 x1 y1 u0 v0)], resWhole [F.int .i64 (IntKind.i64.wrap (u1 - u0))]])) (unNum (resBy [resWhole [F.int .i64 v0], numF (IntKind.i64.wrap (crossW x0 y0 x1 y1 u0 v0 - crossW x0 y0 x1 y1 u1 v1))]) + unNum (resBy [resWhole [F.int .i64 (crossW x0 y0 x1 y1 u0 v0)], resWhole [F.int .i64 (IntKind.i64.wrap (v1 - v0))]])) (IntKind.i64.wrap (crossW x0 y0 x1 y1 u0 v0 - crossW x0 y0 x1 y1 u1 v1)))) (unWs (spotF (unNum (resBy [resWhole [F.int .i64 u0], numF (IntKind.i64.wrap (crossW x0 y0 x1 y1 u0 v0 - crossW x0 y0 x1 y1 u1 v1))]) + unNum (resBy [resWhole [F.int .i64 (crossW x0 y0 x1 y1 u0 v0)], resWhole [F.int .i64 (IntKind.i64.wrap (u1 - u0))]])) (unNum (resBy [resWhole [F.int .i64 v0], numF (IntKind.i64.wrap (crossW x0 y0 x1 y1 u0 v0 - crossW x0 y0 x1 y1 u1 v1))]) + unNum (resBy [resWhole [F.int .i64 (crossW x0 y0 x1 y1 u0 v0)], resWhole [F.int .i64 (IntKind.i64.wrap (v1 - v0))]])) (IntKind.i64.wrap (crossW x0 y0 x1 y1 u0 v0 - crossW x0 y0 x1 y1 u1 v1))))), F.int .u64 (ptWV 11 (unXs (spotF (unNum (resBy [resWhole [F.int .i64 u0], numF (IntKind.i64.wrap (crossW x0 y0 x1 y1 u0 v0 - crossW x0 y0 x1 y1 u1 v1))]) + unNum (resBy [resWhole [F.int .i64 (crossW x0 y0 x1 y1 u0 v0)], resWhole [F.int .i64 (IntKind.i64.wrap (u1 - u0))]])) (unNum (resBy [resWhole [F.int .i64 v0], numF (IntKind.i64.wrap (crossW x0 y0 x1 y1 u0 v0 - crossW x0 y0 x1 y1 u1 v1))]) + unNum (resBy [resWhole [F.int .i64 (crossW x0 y0 x1 y1 u0 v0)], resWhole [F.int .i64 (IntKind.i64.wrap (v1 - v0))]])) (IntKind.i64.wrap (crossW x0 y0 x1 y1 u0 v0 - crossW x0 y0 x1 y1 u1 v1)))) (unYs (spotF (unNum (resBy [resWhole [F.int .i64 u0], numF (IntKind.i64.wrap (crossW x0 y0 x1 y1 u0 v0 - crossW x0 y0 x1 y1 u1 v1))]) + unNum (resBy [resWhole [F.int .i64 (crossW x0 y0 x1 y1 u0 v0)], resWhole [F.int .i64 (IntKind.i64.wrap (u1 - u0))]])) (unNum (resBy [resWhole [F.int .i64 v0], numF (IntKind.i64.wrap (crossW x0 y0 x1 y1 u0 v0 - crossW x0 y0 x1 y1 u1 v1))]) + unNum (resBy [resWhole [F.int .i64 (crossW x0 y0 x1 y1 u0 v0)], resWhole [F.int .i64 (IntKind.i64.wrap (v1 - v0))]])) (IntKind.i64.wrap (crossW x0 y0 x1 y1 u0 v0 - crossW x0 y0 x1 y1 u1 v1)))) (unWs (spotF (unNum (resBy [resWhole [F.int .i64 u0], numF (IntKind.i64.wrap (crossW x0 y0 x1 y1 u0 v0 - crossW x0 y0 x1 y1 u1 v1))]) + unNum (resBy [resWhole [F.int .i64 (crossW x0 y0 x1 y1 u0 v0)], resWhole [F.int .i64 (IntKind.i64.wrap (u1 - u0))]])) (unNum (resBy [resWhole [F.int .i64 v0], numF (IntKind.i64.wrap (crossW x0 y0 x1 y1 u0 v0 - crossW x0 y0 x1 y1 u1 v1))]) + unNum (resBy [resWhole [F.int .i64 (crossW x0 y0 x1 y1 u0 v0)], resWhole [F.int .i64 (IntKind.i64.wrap (v1 - v0))]])) (IntKind.i64.wrap (crossW x0 y0 x1 y1 u0 v0 - crossW x0 y0 x1 y1 u1 v1)))))], F.agg [F.int .u64 0, F.int .u64 0, F.int .u64 0, F.int .u64 0, F.int .u64 0, F.int .u64 0, F.int .u64 0, F.int .u64 0, F.int .u64 0, F.int .u64 0, F.int .u64 0, F.int .u64 0]]))
 none)
 none)
 none)
 none)
 none)
 none)
 none)
 none)
 none)
 none)
 none)
 none)
 none)
 none))
 (ret (F.tup [F.int .i64 0, F.agg [F.int .u64 0, F.int .u64 0, F.int .u64 0, F.int .u64 0, F.int .u64 0, F.int .u64 0, F.int .u64 0, F.int .u64 0, F.int .u64 0, F.int .u64 0, F.int .u64 0, F.int .u64 0], F.agg [F.int .u64 0, F.int .u64 0, F.int .u64 0, F.int .u64 0, F.int .u64 0, F.int .u64 0, F.int .u64 0, F.int .u64 0, F.int .u64 0, F.int .u64 0, F.int .u64 0, F.int .u64 0]])))))
 (ret (F.tup [F.int .i64 0, F.agg [F.int .u64 0, F.int .u64 0, F.int .u64 0, F.int .u64 0, F.int .u64 0, F.int .u64 0, F.int .u64 0, F.int .u64 0, F.int .u64 0, F.int .u64 0, F.int .u64 0, F.int .u64 0], F.agg [F.int .u64 0, F.int .u64 0, F.int .u64 0, F.int .u64 0, F.int .u64 0, F.int .u64 0, F.int .u64 0, F.int .u64 0, F.int .u64 0, F.int .u64 0, F.int .u64 0, F.int .u64 0]])))
def G57 (x0 : Int) (y0 : Int) (x1 : Int) (y1 : Int) (u0 : Int) (v0 : Int) (u1 : Int) (v1 : Int) : Option (F) := T57 some x0 y0 x1 y1 u0 v0 u1 v1
theorem t57 (x0 : Int) (y0 : Int) (x1 : Int) (y1 : Int) (u0 : Int) (v0 : Int) (u1 : Int) (v1 : Int) (r : F) (h : G57 x0 y0 x1 y1 u0 v0 u1 v1 = some r) : Ends Try.prog Try.f57.results.toList [.code (bodyOf Try.f57)] (start Try.f57.ntmps ([F.agg [F.int .i64 x0, F.int .i64 y0, F.int .i64 x1, F.int .i64 y1], F.agg [F.int .i64 u0, F.int .i64 v0, F.int .i64 u1, F.int .i64 v1]].map .f)) (r) := by
  refine Ends.of_run tyOK envH8_ok (T := []) (n := 200) ?_
  have e : run Try.prog (tiOf Try.prog) envH8 [] 0 Try.f57.results.toList some 200 [.code (bodyOf Try.f57)] (start Try.f57.ntmps ([F.agg [F.int .i64 x0, F.int .i64 y0, F.int .i64 x1, F.int .i64 y1], F.agg [F.int .i64 u0, F.int .i64 v0, F.int .i64 u1, F.int .i64 v1]].map .f)) = T57 (fun r => some (.ret (r))) x0 y0 x1 y1 u0 v0 u1 v1 := by kernel_rfl
  rw [e]
  exact (good_sel h (fun _ h => (good_sel h (fun _ h => good_ret (by cases h; rfl)) (fun _ h => (good_sel h (fun _ h => (good_sel h (fun _ h => (good_sel h (fun _ h => (good_sel h (fun _ h => (good_sel h (fun _ h => good_ret (by cases h; rfl)) (fun _ h => (good_sel h (fun _ h => (good_sel h (fun _ h => good_ret (by cases h; rfl)) (fun _ h => nomatch h))) (fun _ h => (good_sel h (fun _ h => (good_sel h (fun _ h => good_ret (by cases h; rfl)) (fun _ h => nomatch h))) (fun _ h => nomatch h))))))) (fun _ h => (good_sel h (fun _ h => good_ret (by cases h; rfl)) (fun _ h => (good_sel h (fun _ h => (good_sel h (fun _ h => good_ret (by cases h; rfl)) (fun _ h => nomatch h))) (fun _ h => (good_sel h (fun _ h => (good_sel h (fun _ h => good_ret (by cases h; rfl)) (fun _ h => nomatch h))) (fun _ h => nomatch h))))))))) (fun _ h => (good_sel h (fun _ h => (good_sel h (fun _ h => good_ret (by cases h; rfl)) (fun _ h => (good_sel h (fun _ h => (good_sel h (fun _ h => good_ret (by cases h; rfl)) (fun _ h => nomatch h))) (fun _ h => (good_sel h (fun _ h => (good_sel h (fun _ h => good_ret (by cases h; rfl)) (fun _ h => nomatch h))) (fun _ h => nomatch h))))))) (fun _ h => (good_sel h (fun _ h => good_ret (by cases h; rfl)) (fun _ h => (good_sel h (fun _ h => (good_sel h (fun _ h => good_ret (by cases h; rfl)) (fun _ h => nomatch h))) (fun _ h => (good_sel h (fun _ h => (good_sel h (fun _ h => good_ret (by cases h; rfl)) (fun _ h => nomatch h))) (fun _ h => nomatch h))))))))))) (fun _ h => (good_sel h (fun _ h => (good_sel h (fun _ h => good_ret (by cases h; rfl)) (fun _ h => (good_sel h (fun _ h => (good_sel h (fun _ h => (good_sel h (fun _ h => (good_sel h (fun _ h => (good_sel h (fun _ h => (good_sel h (fun _ h => (good_sel h (fun _ h => (good_sel h (fun _ h => (good_sel h (fun _ h => (good_sel h (fun _ h => (good_sel h (fun _ h => (good_sel h (fun _ h => (good_sel h (fun _ h => (good_sel h (fun _ h => good_ret (by cases h; rfl)) (fun _ h => nomatch h))) (fun _ h => nomatch h))) (fun _ h => nomatch h))) (fun _ h => nomatch h))) (fun _ h => nomatch h))) (fun _ h => nomatch h))) (fun _ h => nomatch h))) (fun _ h => nomatch h))) (fun _ h => nomatch h))) (fun _ h => nomatch h))) (fun _ h => nomatch h))) (fun _ h => nomatch h))) (fun _ h => nomatch h))) (fun _ h => nomatch h))))) (fun _ h => good_ret (by cases h; rfl)))))) (fun _ h => (good_sel h (fun _ h => (good_sel h (fun _ h => good_ret (by cases h; rfl)) (fun _ h => (good_sel h (fun _ h => (good_sel h (fun _ h => (good_sel h (fun _ h => (good_sel h (fun _ h => (good_sel h (fun _ h => (good_sel h (fun _ h => (good_sel h (fun _ h => (good_sel h (fun _ h => (good_sel h (fun _ h => (good_sel h (fun _ h => (good_sel h (fun _ h => (good_sel h (fun _ h => (good_sel h (fun _ h => (good_sel h (fun _ h => good_ret (by cases h; rfl)) (fun _ h => nomatch h))) (fun _ h => nomatch h))) (fun _ h => nomatch h))) (fun _ h => nomatch h))) (fun _ h => nomatch h))) (fun _ h => nomatch h))) (fun _ h => nomatch h))) (fun _ h => nomatch h))) (fun _ h => nomatch h))) (fun _ h => nomatch h))) (fun _ h => nomatch h))) (fun _ h => nomatch h))) (fun _ h => nomatch h))) (fun _ h => nomatch h))))) (fun _ h => good_ret (by cases h; rfl)))))))) (fun _ h => good_ret (by cases h; rfl)))
def goodI (X : Option F) (M S : Prop) : Prop := ∃ (k a0 a1 a2 a3 a4 a5 a6 a7 a8 a9 a10 a11 b0 b1 b2 b3 b4 b5 b6 b7 b8 b9 b10 b11 : Int), X = some (F.tup [.int .i64 k, .agg [.int .u64 a0, .int .u64 a1, .int .u64 a2, .int .u64 a3, .int .u64 a4, .int .u64 a5, .int .u64 a6, .int .u64 a7, .int .u64 a8, .int .u64 a9, .int .u64 a10, .int .u64 a11], .agg [.int .u64 b0, .int .u64 b1, .int .u64 b2, .int .u64 b3, .int .u64 b4, .int .u64 b5, .int .u64 b6, .int .u64 b7, .int .u64 b8, .int .u64 b9, .int .u64 b10, .int .u64 b11]]) ∧ kindOk k M S
theorem goodI_of {k a0 a1 a2 a3 a4 a5 a6 a7 a8 a9 a10 a11 b0 b1 b2 b3 b4 b5 b6 b7 b8 b9 b10 b11 : Int} {M S : Prop} (h : kindOk k M S) : goodI (some (F.tup [.int .i64 k, .agg [.int .u64 a0, .int .u64 a1, .int .u64 a2, .int .u64 a3, .int .u64 a4, .int .u64 a5, .int .u64 a6, .int .u64 a7, .int .u64 a8, .int .u64 a9, .int .u64 a10, .int .u64 a11], .agg [.int .u64 b0, .int .u64 b1, .int .u64 b2, .int .u64 b3, .int .u64 b4, .int .u64 b5, .int .u64 b6, .int .u64 b7, .int .u64 b8, .int .u64 b9, .int .u64 b10, .int .u64 b11]])) M S := ⟨_, _, _, _, _, _, _, _, _, _, _, _, _, _, _, _, _, _, _, _, _, _, _, _, _, rfl, h⟩
theorem goodI_sel {c : Bool} {X Y : Option F} {M S : Prop} (h1 : c = true → goodI X M S) (h2 : c = false → goodI Y M S) : goodI (bsel c X Y) M S := by
  cases c
  · exact h2 rfl
  · exact h1 rfl
theorem spans_meets {x0 y0 x1 y1 u0 v0 u1 v1 : Int} (h : spans x0 y0 x1 y1 u0 v0 u1 v1) : meets x0 y0 x1 y1 u0 v0 u1 v1 := by
  obtain ⟨h1, h2, h3, h4⟩ := h
  refine .inl ⟨h1, h2, ?_⟩
  unfold lexLt at h3 h4
  unfold lexLe
  omega
theorem kind_no {x0 y0 x1 y1 u0 v0 u1 v1 : Int} (h : ¬ meets x0 y0 x1 y1 u0 v0 u1 v1) : kindOk 0 (meets x0 y0 x1 y1 u0 v0 u1 v1) (spans x0 y0 x1 y1 u0 v0 u1 v1) := ⟨.inl rfl, by simp [h], ⟨fun e => by omega, fun g => absurd (spans_meets g) h⟩⟩
theorem mx_eq (a b : Int) : (if b > a then b else a) = max a b := by
  rw [Int.max_def]
  split <;> split <;> omega
theorem mn_eq (a b : Int) : (if b < a then b else a) = min a b := by
  rw [Int.min_def]
  split <;> split <;> omega
theorem cmpV_neg (x0 y0 x1 y1 : Int) : decide (cmpV x0 y0 x1 y1 < 0) = (lessV x0 y0 x1 y1) := by
  unfold cmpV
  cases h1 : (x0 == x1 && y0 == y1) with
  | true =>
    simp only [Bool.and_eq_true, beq_iff_eq] at h1
    cases h2 : lessV x0 y0 x1 y1 with
    | false => rfl
    | true =>
      have := lessV_lt.1 h2
      unfold lexLt at this
      omega
  | false => cases lessV x0 y0 x1 y1 <;> rfl
theorem cmpV_zero (x0 y0 x1 y1 : Int) : (cmpV x0 y0 x1 y1 == 0) = (x0 == x1 && y0 == y1) := by
  unfold cmpV
  cases (x0 == x1 && y0 == y1) <;> cases lessV x0 y0 x1 y1 <;> rfl
theorem meet_col {x0 y0 x1 y1 u0 v0 u1 v1 : Int} (h0 : spotIn x0 y0) (h1 : spotIn x1 y1) (k0 : spotIn u0 v0) (k1 : spotIn u1 v1) (hs : lexLt x0 y0 x1 y1) (ht : lexLt u0 v0 u1 v1) (ha : crossZ x0 y0 x1 y1 u0 v0 = 0) (hb : crossZ x0 y0 x1 y1 u1 v1 = 0)
    (hA : ¬ (max x0 u0 > min x1 u1)) (hB : ¬ (max (min y0 y1) (min v0 v1) > min (max y0 y1) (max v0 v1))) : goodI (G57 x0 y0 x1 y1 u0 v0 u1 v1) (meets x0 y0 x1 y1 u0 v0 u1 v1) (spans x0 y0 x1 y1 u0 v0 u1 v1) := by
  have i : ∀ {x y : Int}, spotIn x y → isI64 x = true ∧ isI64 y = true := fun h => by
    unfold spotIn at h
    exact ⟨isI64_iff.2 (by omega), isI64_iff.2 (by omega)⟩
  have hm : meets x0 y0 x1 y1 u0 v0 u1 v1 ↔ (lexLe u0 v0 x1 y1 ∧ lexLe x0 y0 u1 v1) := by
    unfold meets
    rw [ha, hb]
    constructor
    · rintro (⟨_, _, h⟩ | ⟨h, _⟩)
      · exact h
      · exact absurd ⟨rfl, rfl⟩ h
    · exact fun h => .inl ⟨rfl, rfl, h⟩
  have hsp : spans x0 y0 x1 y1 u0 v0 u1 v1 ↔ (lexLt u0 v0 x1 y1 ∧ lexLt x0 y0 u1 v1) := by
    unfold spans
    rw [ha, hb]
    exact ⟨fun h => h.2.2, fun h => ⟨rfl, rfl, h⟩⟩
  unfold G57 T57
  rw [(crossW_eq h0 h1 k0).1, (crossW_eq h0 h1 k1).1, ha, hb]
  simp only [if_true, Bool.false_eq_true, if_false, mx_eq, mn_eq, decide_eq_false hA, decide_eq_false hB, beq_self_eq_true, bsel_true, bsel_false, cmpV_pos, cmpV_neg, cmpV_zero, i h0, i h1, i k0, i k1, Bool.and_self]
  clear hA hB
  unfold lexLt at hs ht
  repeat' first
    | (refine goodI_of ?_; refine kindOk_of fun j hj => ?_; rw [hm, hsp]; clear hm hsp ha hb i h0 h1 k0 k1; simp only [lessV_lt, lessV_no, Bool.and_true, Bool.and_eq_true, Bool.and_eq_false_iff, beq_iff_eq, beq_eq_false_iff_ne, ne_eq] at *; unfold lexLe at *; unfold lexLt at *; omega)
    | (refine goodI_sel (fun _ => ?_) (fun _ => ?_))
theorem meet_off {x0 y0 x1 y1 u0 v0 u1 v1 : Int} (h0 : spotIn x0 y0) (h1 : spotIn x1 y1) (k0 : spotIn u0 v0) (k1 : spotIn u1 v1) (hn : ¬ (crossZ x0 y0 x1 y1 u0 v0 = 0 ∧ crossZ x0 y0 x1 y1 u1 v1 = 0))
    (ho : ¬ (apart (crossZ x0 y0 x1 y1 u0 v0) (crossZ x0 y0 x1 y1 u1 v1) ∧ apart (crossZ u0 v0 u1 v1 x0 y0) (crossZ u0 v0 u1 v1 x1 y1)))
    (hA : ¬ (max x0 u0 > min x1 u1)) (hB : ¬ (max (min y0 y1) (min v0 v1) > min (max y0 y1) (max v0 v1))) : goodI (G57 x0 y0 x1 y1 u0 v0 u1 v1) (meets x0 y0 x1 y1 u0 v0 u1 v1) (spans x0 y0 x1 y1 u0 v0 u1 v1) := by
  have hm : ¬ meets x0 y0 x1 y1 u0 v0 u1 v1 := by
    unfold meets
    rintro (⟨a, b, _⟩ | ⟨_, h⟩)
    · exact hn ⟨a, b⟩
    · exact ho h
  have z := kind_no hm
  have tt : (true == true) = true := rfl
  have ft : (false == true) = false := rfl
  have tf : (true == false) = false := rfl
  have ff : (false == false) = true := rfl
  unfold G57 T57
  rw [(crossW_eq h0 h1 k0).1, (crossW_eq h0 h1 k1).1, (crossW_eq k0 k1 h0).1, (crossW_eq k0 k1 h1).1]
  simp only [if_true, Bool.false_eq_true, if_false, mx_eq, mn_eq, decide_eq_false hA, decide_eq_false hB, ff, bsel_true, bsel_false, signV_sign]
  clear hA hB
  generalize crossZ x0 y0 x1 y1 u0 v0 = A at *
  generalize crossZ x0 y0 x1 y1 u1 v1 = B at *
  generalize crossZ u0 v0 u1 v1 x0 y0 = C at *
  generalize crossZ u0 v0 u1 v1 x1 y1 = D at *
  by_cases ap : apart A B
  · have cd : ¬ apart C D := fun h => ho ⟨ap, h⟩
    rw [apart_yes ap, apart_no cd]
    by_cases hA : A = 0
    · have hB : ¬ B = 0 := fun h => hn ⟨hA, h⟩
      rw [show (A == 0) = true from beq_iff_eq.2 hA, show (B == 0) = false from beq_eq_false_iff_ne.2 hB]
      simp only [tt, ff, bsel_true, bsel_false]
      exact goodI_of z
    · rw [show (A == 0) = false from beq_eq_false_iff_ne.2 hA]
      simp only [ft, ff, bsel_true, bsel_false]
      exact goodI_of z
  · rw [apart_no ap]
    by_cases hA : A = 0
    · exact absurd (show apart A B by unfold apart; omega) ap
    · rw [show (A == 0) = false from beq_eq_false_iff_ne.2 hA]
      simp only [ft, tf, bsel_true, bsel_false]
      exact goodI_of z
theorem mulC {a b : Int} (ha : -1000000 ≤ a ∧ a ≤ 1000000) (hb : -8000000000000 ≤ b ∧ b ≤ 8000000000000) : -8000000000000000000 ≤ a * b ∧ a * b ≤ 8000000000000000000 := by
  have h : (a * b).natAbs ≤ 1000000 * 8000000000000 := by rw [Int.natAbs_mul]; exact Nat.mul_le_mul (by omega) (by omega)
  omega
theorem meet_in {x0 y0 x1 y1 u0 v0 u1 v1 : Int} (h0 : spotIn x0 y0) (h1 : spotIn x1 y1) (k0 : spotIn u0 v0) (k1 : spotIn u1 v1) (hn : ¬ (crossZ x0 y0 x1 y1 u0 v0 = 0 ∧ crossZ x0 y0 x1 y1 u1 v1 = 0))
    (ho : apart (crossZ x0 y0 x1 y1 u0 v0) (crossZ x0 y0 x1 y1 u1 v1) ∧ apart (crossZ u0 v0 u1 v1 x0 y0) (crossZ u0 v0 u1 v1 x1 y1))
    (hA : ¬ (max x0 u0 > min x1 u1)) (hB : ¬ (max (min y0 y1) (min v0 v1) > min (max y0 y1) (max v0 v1))) : goodI (G57 x0 y0 x1 y1 u0 v0 u1 v1) (meets x0 y0 x1 y1 u0 v0 u1 v1) (spans x0 y0 x1 y1 u0 v0 u1 v1) := by
  have hm : meets x0 y0 x1 y1 u0 v0 u1 v1 := .inr ⟨hn, ho⟩
  have hsp : ¬ spans x0 y0 x1 y1 u0 v0 u1 v1 := fun h => hn ⟨h.1, h.2.1⟩
  have z : kindOk 1 (meets x0 y0 x1 y1 u0 v0 u1 v1) (spans x0 y0 x1 y1 u0 v0 u1 v1) := ⟨.inr (.inl rfl), by simp [hm], by simp [hsp]⟩
  have tt : (true == true) = true := rfl
  have ft : (false == true) = false := rfl
  have ff : (false == false) = true := rfl
  obtain ⟨e0, l0, g0⟩ := crossW_eq h0 h1 k0
  obtain ⟨e1, l1, g1⟩ := crossW_eq h0 h1 k1
  have s0 := h0
  have s1 := h1
  have t0 := k0
  have t1 := k1
  unfold spotIn at s0 s1 t0 t1
  have r : ∀ n : Int, resWhole [F.int .i64 n] = numF n := fun _ => rfl
  unfold G57 T57
  rw [e0, e1, (crossW_eq k0 k1 h0).1, (crossW_eq k0 k1 h1).1]
  simp only [if_true, Bool.false_eq_true, if_false, mx_eq, mn_eq, decide_eq_false hA, decide_eq_false hB, ff, bsel_true, bsel_false, signV_sign, apart_yes ho.1, apart_yes ho.2]
  clear hA hB hm hsp
  have wx : IntKind.i64.wrap (u1 - u0) = u1 - u0 := wrapI (by omega) (by omega)
  have wy : IntKind.i64.wrap (v1 - v0) = v1 - v0 := wrapI (by omega) (by omega)
  have ho1 := ho.1
  generalize crossZ x0 y0 x1 y1 u0 v0 = A at *
  generalize crossZ x0 y0 x1 y1 u1 v1 = B at *
  have wd : IntKind.i64.wrap (A - B) = A - B := wrapI (by omega) (by omega)
  have n1 : ∀ {w : Int}, isI64 w = true → w.natAbs < 18446744073709551616 ^ 1 := fun h => by have := isI64_iff.1 h; omega
  have iA : isI64 A = true := isI64_iff.2 (by omega)
  have id : isI64 (A - B) = true := isI64_iff.2 (by omega)
  have iu : isI64 u0 = true := isI64_iff.2 (by omega)
  have iv : isI64 v0 = true := isI64_iff.2 (by omega)
  have ix : isI64 (u1 - u0) = true := isI64_iff.2 (by omega)
  have iy : isI64 (v1 - v0) = true := isI64_iff.2 (by omega)
  have bx : (u0 * (A - B) + A * (u1 - u0)).natAbs < 18446744073709551616 ^ 1 := by
    have e : u0 * (A - B) + A * (u1 - u0) = u1 * A - u0 * B := by grind
    have m1 := mulC (a := u1) (b := A) (by omega) (by omega)
    have m2 := mulC (a := u0) (b := B) (by omega) (by omega)
    rw [e, Nat.pow_one]
    omega
  have by' : (v0 * (A - B) + A * (v1 - v0)).natAbs < 18446744073709551616 ^ 1 := by
    have e : v0 * (A - B) + A * (v1 - v0) = v1 * A - v0 * B := by grind
    have m1 := mulC (a := v1) (b := A) (by omega) (by omega)
    have m2 := mulC (a := v0) (b := B) (by omega) (by omega)
    rw [e, Nat.pow_one]
    omega
  have hsp3 : isSpot3 1 (spotF (u0 * (A - B) + A * (u1 - u0)) (v0 * (A - B) + A * (v1 - v0)) (A - B)) = true := isSpot3_spotF bx by' (n1 id)
  simp only [wx, wy, wd, r, resBy_num, unNum_numF, iA, id, iu, iv, ix, iy, num_ok (n1 iA) (show 1 ≤ 400 by omega), num_ok (n1 id) (show 1 ≤ 400 by omega), num_ok (n1 iu) (show 1 ≤ 400 by omega), num_ok (n1 iv) (show 1 ≤ 400 by omega), num_ok (n1 ix) (show 1 ≤ 400 by omega), num_ok (n1 iy) (show 1 ≤ 400 by omega),
    num_ok (mul_bound (n1 iu) (n1 id)) (show 1 + 1 ≤ 400 by omega), num_ok (mul_bound (n1 iv) (n1 id)) (show 1 + 1 ≤ 400 by omega), num_ok (mul_bound (n1 iA) (n1 ix)) (show 1 + 1 ≤ 400 by omega), num_ok (mul_bound (n1 iA) (n1 iy)) (show 1 + 1 ≤ 400 by omega), hsp3, Bool.and_self, bsel_true]
  by_cases hA : A = 0
  · have hB : ¬ B = 0 := fun h => hn ⟨hA, h⟩
    rw [show (A == 0) = true from beq_iff_eq.2 hA, show (B == 0) = false from beq_eq_false_iff_ne.2 hB]
    simp only [tt, ff, bsel_true, bsel_false]
    exact goodI_of z
  · rw [show (A == 0) = false from beq_eq_false_iff_ne.2 hA]
    simp only [ft, ff, bsel_true, bsel_false]
    exact goodI_of z
theorem meet_law {x0 y0 x1 y1 u0 v0 u1 v1 : Int} (h0 : spotIn x0 y0) (h1 : spotIn x1 y1) (k0 : spotIn u0 v0) (k1 : spotIn u1 v1) (hs : lexLt x0 y0 x1 y1) (ht : lexLt u0 v0 u1 v1) : goodI (G57 x0 y0 x1 y1 u0 v0 u1 v1) (meets x0 y0 x1 y1 u0 v0 u1 v1) (spans x0 y0 x1 y1 u0 v0 u1 v1) := by
  have box := meets_box (x0 := x0) (y0 := y0) (x1 := x1) (y1 := y1) (u0 := u0) (v0 := v0) (u1 := u1) (v1 := v1) hs ht
  have ff : (false == false) = true := rfl
  have tf : (true == false) = false := rfl
  by_cases hA : max x0 u0 > min x1 u1
  · have hm : ¬ meets x0 y0 x1 y1 u0 v0 u1 v1 := fun h => by
      have := (box h).1
      unfold lexLt at hs ht
      omega
    unfold G57 T57
    simp only [if_true, Bool.false_eq_true, if_false, mx_eq, mn_eq, decide_eq_true hA, tf, bsel_false]
    exact goodI_of (kind_no hm)
  · by_cases hB : max (min y0 y1) (min v0 v1) > min (max y0 y1) (max v0 v1)
    · have hm : ¬ meets x0 y0 x1 y1 u0 v0 u1 v1 := fun h => by
        have := (box h).2
        omega
      unfold G57 T57
      simp only [if_true, Bool.false_eq_true, if_false, mx_eq, mn_eq, decide_eq_false hA, decide_eq_true hB, ff, bsel_true]
      exact goodI_of (kind_no hm)
    · by_cases hn : crossZ x0 y0 x1 y1 u0 v0 = 0 ∧ crossZ x0 y0 x1 y1 u1 v1 = 0
      · exact meet_col h0 h1 k0 k1 hs ht hn.1 hn.2 hA hB
      · by_cases ho : apart (crossZ x0 y0 x1 y1 u0 v0) (crossZ x0 y0 x1 y1 u1 v1) ∧ apart (crossZ u0 v0 u1 v1 x0 y0) (crossZ u0 v0 u1 v1 x1 y1)
        · exact meet_in h0 h1 k0 k1 hn ho hA hB
        · exact meet_off h0 h1 k0 k1 hn ho hA hB
def kindIV (x0 y0 x1 y1 u0 v0 u1 v1 : Int) : Int := match G57 x0 y0 x1 y1 u0 v0 u1 v1 with | some (.tup [.int _ k, _, _]) => k | _ => 0
def mtWV (i : Nat) (x0 y0 x1 y1 u0 v0 u1 v1 : Int) : Int := match G57 x0 y0 x1 y1 u0 v0 u1 v1 with | some (.tup [_, .agg l, .agg m]) => intAt (l ++ m) i | _ => 0
theorem kindI_ok {x0 y0 x1 y1 u0 v0 u1 v1 : Int} (hs : segOkV x0 y0 x1 y1 = true) (ht : segOkV u0 v0 u1 v1 = true) : kindOk (kindIV x0 y0 x1 y1 u0 v0 u1 v1) (meets x0 y0 x1 y1 u0 v0 u1 v1) (spans x0 y0 x1 y1 u0 v0 u1 v1) := by
  obtain ⟨h0, h1, h2⟩ := sgOk_parts hs
  obtain ⟨k0, k1, k2⟩ := sgOk_parts ht
  obtain ⟨_, _, _, _, _, _, _, _, _, _, _, _, _, _, _, _, _, _, _, _, _, _, _, _, _, e, h⟩ := meet_law h0 h1 k0 k1 h2 k2
  unfold kindIV
  rw [e]
  exact h
theorem kindI_3 {x0 y0 x1 y1 u0 v0 u1 v1 : Int} (hs : segOkV x0 y0 x1 y1 = true) (ht : segOkV u0 v0 u1 v1 = true) : kindIV x0 y0 x1 y1 u0 v0 u1 v1 = kind3V x0 y0 x1 y1 u0 v0 u1 v1 := kindOk_eq (kindI_ok hs ht) (kind3_ok hs ht)
def resMeetI : List F → F | [.agg [.int .i64 a, .int .i64 b, .int .i64 c, .int .i64 d], .agg [.int .i64 e, .int .i64 f, .int .i64 g, .int .i64 h]] => .tup [.int .i64 (kindIV a b c d e f g h), .agg [.int .u64 (mtWV 0 a b c d e f g h), .int .u64 (mtWV 1 a b c d e f g h), .int .u64 (mtWV 2 a b c d e f g h), .int .u64 (mtWV 3 a b c d e f g h), .int .u64 (mtWV 4 a b c d e f g h), .int .u64 (mtWV 5 a b c d e f g h), .int .u64 (mtWV 6 a b c d e f g h), .int .u64 (mtWV 7 a b c d e f g h), .int .u64 (mtWV 8 a b c d e f g h), .int .u64 (mtWV 9 a b c d e f g h), .int .u64 (mtWV 10 a b c d e f g h), .int .u64 (mtWV 11 a b c d e f g h)], .agg [.int .u64 (mtWV 12 a b c d e f g h), .int .u64 (mtWV 13 a b c d e f g h), .int .u64 (mtWV 14 a b c d e f g h), .int .u64 (mtWV 15 a b c d e f g h), .int .u64 (mtWV 16 a b c d e f g h), .int .u64 (mtWV 17 a b c d e f g h), .int .u64 (mtWV 18 a b c d e f g h), .int .u64 (mtWV 19 a b c d e f g h), .int .u64 (mtWV 20 a b c d e f g h), .int .u64 (mtWV 21 a b c d e f g h), .int .u64 (mtWV 22 a b c d e f g h), .int .u64 (mtWV 23 a b c d e f g h)]] | _ => .dflt
theorem okMeetI : PureOK Try.prog 57 preMeet3 resMeetI :=
  fn_pure (c := bodyOf Try.f57) Try.func57 (by kernel_rfl) (by kernel_rfl) fun xs hp => match xs, hp with
  | [.agg [.int .i64 a, .int .i64 b, .int .i64 c, .int .i64 d], .agg [.int .i64 e, .int .i64 f, .int .i64 g, .int .i64 h]], hp => by
    simp only [preMeet3, Bool.and_eq_true] at hp
    obtain ⟨h0, h1, h2⟩ := sgOk_parts hp.1
    obtain ⟨k0, k1, k2⟩ := sgOk_parts hp.2
    obtain ⟨k, p0, p1, p2, p3, p4, p5, p6, p7, p8, p9, p10, p11, q0, q1, q2, q3, q4, q5, q6, q7, q8, q9, q10, q11, e1, hk⟩ := meet_law h0 h1 k0 k1 h2 k2
    have t := t57 a b c d e f g h _ e1
    have r : resMeetI [.agg [.int .i64 a, .int .i64 b, .int .i64 c, .int .i64 d], .agg [.int .i64 e, .int .i64 f, .int .i64 g, .int .i64 h]] = .tup [.int .i64 k, .agg [.int .u64 p0, .int .u64 p1, .int .u64 p2, .int .u64 p3, .int .u64 p4, .int .u64 p5, .int .u64 p6, .int .u64 p7, .int .u64 p8, .int .u64 p9, .int .u64 p10, .int .u64 p11], .agg [.int .u64 q0, .int .u64 q1, .int .u64 q2, .int .u64 q3, .int .u64 q4, .int .u64 q5, .int .u64 q6, .int .u64 q7, .int .u64 q8, .int .u64 q9, .int .u64 q10, .int .u64 q11]] := by
      show F.tup [.int .i64 (kindIV a b c d e f g h), .agg [.int .u64 (mtWV 0 a b c d e f g h), .int .u64 (mtWV 1 a b c d e f g h), .int .u64 (mtWV 2 a b c d e f g h), .int .u64 (mtWV 3 a b c d e f g h), .int .u64 (mtWV 4 a b c d e f g h), .int .u64 (mtWV 5 a b c d e f g h), .int .u64 (mtWV 6 a b c d e f g h), .int .u64 (mtWV 7 a b c d e f g h), .int .u64 (mtWV 8 a b c d e f g h), .int .u64 (mtWV 9 a b c d e f g h), .int .u64 (mtWV 10 a b c d e f g h), .int .u64 (mtWV 11 a b c d e f g h)], .agg [.int .u64 (mtWV 12 a b c d e f g h), .int .u64 (mtWV 13 a b c d e f g h), .int .u64 (mtWV 14 a b c d e f g h), .int .u64 (mtWV 15 a b c d e f g h), .int .u64 (mtWV 16 a b c d e f g h), .int .u64 (mtWV 17 a b c d e f g h), .int .u64 (mtWV 18 a b c d e f g h), .int .u64 (mtWV 19 a b c d e f g h), .int .u64 (mtWV 20 a b c d e f g h), .int .u64 (mtWV 21 a b c d e f g h), .int .u64 (mtWV 22 a b c d e f g h), .int .u64 (mtWV 23 a b c d e f g h)]] = _
      simp only [kindIV, mtWV, e1]
      rfl
    rw [r]
    exact t
def envH9 : Env := envH8.add 57 (.pure preMeet3 resMeetI)
theorem envH9_ok : EnvOK Try.prog envH9 := (Env.add_ok envH8_ok okMeetI.sp)
end
end Go.Proofs.Ytmambbfnjbdfgaa.R

namespace Go.Proofs.Ytmambbfnjbdfgaa.R
open Go
noncomputable section
set_option linter.unusedVariables false
set_option linter.unusedSimpArgs false
set_option maxRecDepth 100000
/-! ### function 53 -/
/-! ### function 50 -/
def envH10 : Env := envH8
theorem envH10_ok : EnvOK Try.prog envH10 := envH8_ok
end
end Go.Proofs.Ytmambbfnjbdfgaa.R
